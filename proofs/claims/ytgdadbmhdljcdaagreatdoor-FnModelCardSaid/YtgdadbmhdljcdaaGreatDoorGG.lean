/- Several texts of the proofs in one: Cuts3, Cuts4, Sort, Most, Most2, Most3. -/
import Derived.Test.YtgdadbmhdljcdaaGreatDoorGA
import Derived.Test.YtgdadbmhdljcdaaGreatDoorGB
import Derived.Test.YtgdadbmhdljcdaaGreatDoorGC
import Derived.Test.YtgdadbmhdljcdaaGreatDoorGF
/- Cuts: the sums of steps, in all and for each zone. -/
namespace Go.Proofs.YtgdadbmhdljcdaaGreatDoor
set_option linter.unusedVariables false
open Go.RowKit Go.Proofs.Bell Go.BigFrame

/-- the sum of all steps -/
def sumSteps (ps : List (Int × Int)) : Int := (ps.map (·.2)).sum
theorem sumSteps_snoc (ps : List (Int × Int)) {k : Nat} (h : k < ps.length) : sumSteps (ps.take (k + 1)) = sumSteps (ps.take k) + ps[k].2 := by
  show ((ps.take (k + 1)).map (·.2)).sum = ((ps.take k).map (·.2)).sum + _
  rw [List.take_succ_eq_append_getElem h, List.map_append, List.sum_append]; simp
theorem sumSteps_bd {ps : List (Int × Int)} (h : ps.all cutB = true) : ∀ k, 0 ≤ sumSteps (ps.take k) ∧ sumSteps (ps.take k) ≤ 20 * k := by
  intro k
  induction k with
  | zero => simp [sumSteps]
  | succ k ih =>
    rcases Nat.lt_or_ge k ps.length with hk | hk
    · rw [sumSteps_snoc ps hk]
      have h1 := List.all_eq_true.1 h ps[k] (List.getElem_mem hk)
      simp only [cutB, Bool.and_eq_true] at h1
      have := inB_t h1.2
      omega
    · rw [List.take_of_length_le (by omega)] at ih ⊢; omega

def totalI (ps : List (Int × Int)) : Int × Int := if cutsB ps then (sumSteps ps, 0) else (0, 1)

/-- the steps of one zone, of all zones -/
def zoneSum (ps : List (Int × Int)) (z : Nat) : Int := ((ps.filter (fun p => p.1 == (z : Int))).map (·.2)).sum
def sumsOf (ps : List (Int × Int)) : List Int := (List.range 8).map (zoneSum ps)
theorem sumsOf_len (ps : List (Int × Int)) : (sumsOf ps).length = 8 := by simp [sumsOf]
theorem sumsOf_at (ps : List (Int × Int)) {z : Nat} (h : z < 8) : (sumsOf ps)[z]? = some (zoneSum ps z) := by
  simp only [sumsOf, List.getElem?_map, List.getElem?_range h, Option.map_some]
theorem zoneSum_snoc (ps : List (Int × Int)) (p : Int × Int) (z : Nat) : zoneSum (ps ++ [p]) z = zoneSum ps z + if p.1 = (z : Int) then p.2 else 0 := by
  unfold zoneSum
  rw [List.filter_append, List.map_append, List.sum_append]
  by_cases h : p.1 = (z : Int) <;> simp [List.filter_cons, h]
theorem sumsOf_snoc (ps : List (Int × Int)) {k : Nat} (h : k < ps.length) {z : Nat} (hz : ps[k].1 = (z : Int)) : sumsOf (ps.take (k + 1)) = (sumsOf (ps.take k)).set z (zoneSum (ps.take k) z + ps[k].2) := by
  apply List.ext_getElem?
  intro j
  rw [List.take_succ_eq_append_getElem h]
  rcases Nat.lt_or_ge j 8 with hj | hj
  · rw [sumsOf_at _ hj, zoneSum_snoc, hz]
    by_cases e : z = j
    · subst e; rw [List.getElem?_set_self (by rw [sumsOf_len]; exact hj)]; simp
    · rw [List.getElem?_set_ne e, sumsOf_at _ hj]
      have : ¬ ((z : Int) = (j : Int)) := by omega
      simp [this]
  · rw [List.getElem?_eq_none (by rw [sumsOf_len]; exact hj), List.getElem?_eq_none (by rw [List.length_set, sumsOf_len]; exact hj)]
theorem zoneSum_bd {ps : List (Int × Int)} (h : ps.all cutB = true) (z : Nat) : ∀ k, 0 ≤ zoneSum (ps.take k) z ∧ zoneSum (ps.take k) z ≤ 20 * k := by
  intro k
  induction k with
  | zero => simp [zoneSum]
  | succ k ih =>
    rcases Nat.lt_or_ge k ps.length with hk | hk
    · rw [List.take_succ_eq_append_getElem hk, zoneSum_snoc]
      have h1 := List.all_eq_true.1 h ps[k] (List.getElem_mem hk)
      simp only [cutB, Bool.and_eq_true] at h1
      have := inB_t h1.2
      split <;> omega
    · rw [List.take_of_length_le (by omega)] at ih ⊢; omega

theorem ints_set (zs : List Int) (z : Nat) (x : Int) : (ints zs).set z (.int .i64 x) = ints (zs.set z x) := by simp [ints]

set_option maxHeartbeats 1600000 in
theorem stepsOf_c (v : Value) (ps : List (Int × Int)) (w : World) (h : Rd w v ps.length (pairs ps)) (ht : cutsB ps = true) :
    Calls Tryz.prog 92 #[v] w (RetOwnI (sumsOf ps) w) := by
  obtain ⟨i0, hi, hz0, hz1, hz2⟩ := info_parts info_int64
  generalize hn : ps.length = n at h
  have HN := Lib.hid hn; clear hn
  obtain ⟨hn, ao, cap, b, off, rfl, hao, hcell⟩ := h.open
  clear h
  have ha : ps.all cutB = true ∧ ps.length ≤ 64 := by simpa [cutsB] using ht
  have hbd := fun z => zoneSum_bd ha.1 z
  have hn64 : n ≤ 64 := by have := ha.2; rw [HN.out] at this; exact this
  have hA := ha.1
  have HA := Lib.hid hA; clear hA
  clear ha ht
  have HB := Lib.hid hbd; clear hbd
  go_enter Tryz.func92, Tryz.ntmps92
  go_wp2_with (at_make; refine wpList_make_full _ rfl _ _ 42 rfl w.heap.size 2 i0 (.int .i64 0) 1 Tryz.underlying42 hi hz0 hz1 _ _ _ _ 8 rfl rfl (by omega) (by omega) ?b2 ?b3 (Nat.le_refl _) ?_)
  case b2 => rw [hz2]; omega
  case b3 => unfold maxLen; omega
  intro w0 hown0 hg0
  have hb0 : Below w.heap.size w w0 := (Below.refl _ _).grown hg0 (Nat.le_refl _) (fun k h => by cases h)
  go_wp2
  go_loopw [9] (fun i wr => ∃ (k : Nat), k ≤ n ∧ i = .int .i64 k ∧ wr.ownsRow w.heap.size 2 1 (.slice (some ⟨w.heap.size, 0, none⟩) 8 8) 8 (ints (sumsOf (ps.take k))) ∧ Below w.heap.size w wr)
    (fun i _ => n - (intOf i).toNat)
  case atStart => exact ⟨0, Nat.zero_le _, rfl, by rw [toList_madeCells_one] at hown0; exact hown0, hb0⟩
  case round =>
    obtain ⟨k, hk, rfl, hown, hb⟩ := hrel
    by_cases hlt : k < n
    · have hltp : k < ps.length := by rw [HN.out]; exact hlt
      have hix := ix (P := Tryz.prog) (T := 65) (cap := cap) Tryz.underlying65 cells_Cut has_Cut hao hlt k rfl
      have hc1 : wr.cell? ⟨b, off + k * 2, none⟩ = some (.int .i64 ps[k].1) := hcell _ hb _ _ (by omega) (pairs_at hltp).1
      have hc2 : wr.cell? ⟨b, off + k * 2 + 1, none⟩ = some (.int .i64 ps[k].2) := hcell _ hb _ _ (by omega) (pairs_at hltp).2
      have hcb := List.all_eq_true.1 HA.out ps[k] (List.getElem_mem hltp)
      simp only [cutB, Bool.and_eq_true] at hcb
      obtain ⟨q1, q2⟩ := inB_t hcb.1
      obtain ⟨q3, q4⟩ := inB_t hcb.2
      clear hcb
      obtain ⟨z, hz⟩ := Int.eq_ofNat_of_zero_le q1
      have hz8 : z < 8 := by omega
      have hs := sumsOf_snoc ps hltp hz
      have HS := Lib.hid hs; clear hs
      rw [hz] at hc1
      clear hz q1 q2
      clear hcell
      have hbz := HB.out z k
      have hg1 := hown.cellAt z (by omega)
      have hu : (ints (sumsOf (ps.take k)))[z]? = some (.int .i64 (zoneSum (ps.take k) z)) := by rw [ints, List.getElem?_map, sumsOf_at _ hz8]; rfl
      rw [hu] at hg1
      clear hu
      have hf1 := hown.frozenAt z
      obtain ⟨s1, s2⟩ := hbz
      generalize zoneSum (ps.take k) z = y at *
      generalize ps[k].2 = st at *
      have hbl : w.heap.size < wr.heap.size := (hown.lt _ rfl).2
      go_wp2_with fail
      go_region
      go_wp2
      go_roundw
      case rel => exact ⟨k + 1, by omega, by go_num, by rw [HS.out, ← ints_set]; exact ((hown.stored z _).1.alloc _).drew, ((hb.setCell (Nat.le_refl _) _).alloc (by simp; exact hb.size) _).drew⟩
      case measure => simp [intOf]; omega
    · obtain rfl : k = n := by omega
      have he : ps.take k = ps := List.take_of_length_le (by rw [HN.out]; exact Nat.le_refl _)
      rw [he] at hown
      go_wp2
      go_returns
      exact ⟨_, rfl, hown, hb⟩

theorem sum_set : ∀ (l : List Int) (z : Nat) (x y : Int), l[z]? = some y → (l.set z x).sum = l.sum + x - y
  | [], z, x, y, h => by simp at h
  | a :: l, 0, x, y, h => by simp at h; subst h; simp; omega
  | a :: l, z + 1, x, y, h => by
    simp only [List.getElem?_cons_succ] at h
    have := sum_set l z x y h
    simp only [List.set_cons_succ, List.sum_cons]
    omega
theorem sum_sumsOf {ps : List (Int × Int)} (h : ps.all cutB = true) : ∀ k, (sumsOf (ps.take k)).sum = sumSteps (ps.take k) := by
  intro k
  induction k with
  | zero => rfl
  | succ k ih =>
    rcases Nat.lt_or_ge k ps.length with hk | hk
    · have h1 := List.all_eq_true.1 h ps[k] (List.getElem_mem hk)
      simp only [cutB, Bool.and_eq_true] at h1
      obtain ⟨q1, q2⟩ := inB_t h1.1
      obtain ⟨z, hz⟩ := Int.eq_ofNat_of_zero_le q1
      rw [sumsOf_snoc ps hk hz, sum_set _ z _ _ (sumsOf_at _ (by omega)), ih, sumSteps_snoc ps hk]
      omega
    · rw [List.take_of_length_le (by omega)] at ih ⊢; exact ih

theorem implTotalSteps_c (v : Value) (ps : List (Int × Int)) (w : World) (h : Rd w v ps.length (pairs ps)) :
    Calls Tryz.prog 36 #[v] w (RetB (.tuple #[.int .i64 (totalI ps).1, .int .i64 (totalI ps).2]) w) := by
  have hv := ValidCuts_c v ps w h
  have HV := Lib.hid hv; clear hv
  cases ht : cutsB ps
  · go_enter Tryz.func36, Tryz.ntmps36
    go_wp2_with (go_at_call 91; refine HV.out.mono ?_; rintro _ w1 ⟨rfl, hb1⟩)
    go_returns
    exact RetB.mk (ints_eq (by simp [totalI, ht]) (by simp [totalI, ht])) ‹_›
  · have ha : ps.all cutB = true ∧ ps.length ≤ 64 := by simpa [cutsB] using ht
    have hsum : (sumsOf ps).sum = sumSteps ps := by
      have := sum_sumsOf ha.1 ps.length
      rwa [List.take_length] at this
    have hss : Sums (-4000000000000000000) 4000000000000000000 (sumsOf ps) := by
      refine (sums_of (M := 1280) 8 (by omega) (by rw [sumsOf_len]; exact Nat.le_refl _) (fun x hx => ?_)).wide (by omega) (by omega)
      simp only [sumsOf, List.mem_map] at hx
      obtain ⟨z, _, rfl⟩ := hx
      have := zoneSum_bd ha.1 z ps.length
      rw [List.take_length] at this
      omega
    have HS := Lib.hid hsum; clear hsum
    have HSS := Lib.hid hss; clear hss
    have HA := Lib.hid ha; clear ha
    have HR := Lib.hid h; clear h
    go_enter Tryz.func36, Tryz.ntmps36
    go_wp2_with (first | (go_at_call 91; refine HV.out.mono ?_; rintro _ w1 ⟨rfl, hb1⟩) | (go_at_call 92; refine (stepsOf_c v ps _ (HR.out.later hb1) ht).mono ?_; rintro _ w2 ⟨v2, rfl, hown2, hb2⟩; have hr2 := Rd.of_own hown2; have HR2 := Lib.hid hr2; clear hr2) | (go_at_call 95; refine (sumOf_c v2 _ _ HR2.out HSS.out).mono ?_; rintro _ _ ⟨rfl, rfl⟩))
    go_returns
    exact RetB.mk (ints_eq (by rw [HS.out]; simp [totalI, ht]) (by simp [totalI, ht])) (hb1.trans (hb2.mono hb1.size))

end Go.Proofs.YtgdadbmhdljcdaaGreatDoor

/- The reference's ValidCuts. -/
namespace Go.Proofs.YtgdadbmhdljcdaaGreatDoor
set_option linter.unusedVariables false
open Go.RowKit Go.Proofs.Bell Go.BigFrame

end Go.Proofs.YtgdadbmhdljcdaaGreatDoor

/- Cuts sorted: one cut for each zone with steps. -/
namespace Go.Proofs.YtgdadbmhdljcdaaGreatDoor
set_option linter.unusedVariables false
open Go.RowKit Go.Proofs.Bell Go.BigFrame

def cutsK (zs : List Int) : Nat → List (Int × Int)
  | 0 => []
  | k + 1 => cutsK zs k ++ (if 0 < zs.getD k 0 then [((k : Int), zs.getD k 0)] else [])
theorem cutsK_len (zs : List Int) : ∀ k, (cutsK zs k).length ≤ k
  | 0 => by simp [cutsK]
  | k + 1 => by have := cutsK_len zs k; simp only [cutsK]; split <;> simp <;> omega
theorem cutsK_yes {zs : List Int} {k : Nat} (h : 0 < zs.getD k 0) : cutsK zs (k + 1) = cutsK zs k ++ [((k : Int), zs.getD k 0)] := by rw [cutsK, if_pos h]
theorem cutsK_no {zs : List Int} {k : Nat} (h : ¬ 0 < zs.getD k 0) : cutsK zs (k + 1) = cutsK zs k := by rw [cutsK, if_neg h]; simp
def cutsL (zs : List Int) : List (Int × Int) := cutsK zs zs.length

set_option maxHeartbeats 800000 in
theorem cutsOf_c (v : Value) (zs : List Int) (w : World) (hr : Rd w v zs.length (ints zs)) (hl : zs.length ≤ 1000) :
    Calls Tryz.prog 94 #[v] w (RetOwnC (cutsL zs) w) := by
  unfold cutsL
  generalize hn : zs.length = n at *
  have HN := Lib.hid hn; clear hn
  obtain ⟨hn, ao, cap, bb, off, rfl, hao, hcell⟩ := hr.open
  clear hr
  go_enter Tryz.func94, Tryz.ntmps94
  have b0 : Below w.heap.size w w := Below.refl _ _
  have z0 : w.heap.size ≤ w.heap.size := Nat.le_refl _
  go_wp2_with fail
  go_loopw [8, 3] (fun i u wr => ∃ (k : Nat), k ≤ n ∧ i = .int .i64 k ∧ OwnC w.heap.size wr u (cutsK zs k) ∧ Below w.heap.size w wr) (fun i u _ => n - (intOf i).toNat)
  case atStart => exact ⟨0, Nat.zero_le _, rfl, World.ownsRow_nil _ _ _ _, b0⟩
  case round =>
    obtain ⟨k, hk, rfl, ho, br0⟩ := hrel
    have zr0 := br0.size
    have hlen := cutsK_len zs k
    have hlo := own_lo ho
    have HO := Lib.hid ho; clear ho
    have LO := Lib.hid hlo; clear hlo
    by_cases hlt : k < n
    · skip
      have hlt_z : k < zs.length := by rw [HN.out]; omega
      have hix_z := ix (P := Tryz.prog) (T := 42) (cap := cap) Tryz.underlying42 cells_int64 has_int64 hao (k := k) (by omega) _ (rfl)
      rw [Nat.mul_one] at hix_z
      have hz : wr.cell? ⟨bb, off + k, none⟩ = some (.int .i64 (zs.getD k 0)) := by rw [getD_eq hlt_z]; exact hcell _ br0 _ _ (by omega) (intsAt hlt_z)
      have hy := @cutsK_yes zs k
      have hno := @cutsK_no zs k
      have HY := Lib.hid hy; clear hy
      have HNO := Lib.hid hno; clear hno
      clear hcell hlt_z
      generalize zs.getD k 0 = z at *
      by_cases t1 : 0 < z
      · skip
        go_wp2_with (at_builtin; refine app_C (.tmp 15) (.tmp 19) _ _ _ _ _ _ (by rfl) (by rfl) (by rfl) (by rfl) HO.out (by omega) zr0 ?_; intro v2 wr1 or1 qr1)
        go_wp2
        have hb2 := Only.below br0 qr1 zr0 LO.out
        go_roundw
        case rel => exact ⟨k + 1, by omega, by go_num, by rw [HY.out t1]; exact or1, hb2⟩
        case measure => simp [intOf]; omega
      · go_wp2
        go_roundw
        case rel => exact ⟨k + 1, by omega, by go_num, by rw [HNO.out t1]; exact HO.out, br0⟩
        case measure => simp [intOf]; omega
    · obtain rfl : k = n := by omega
      clear hcell
      go_wp2
      go_returns
      exact ⟨_, rfl, HO.out, br0⟩

/-- the greatest of the first `k` numbers, from the first on -/
def maxK (zs : List Int) : Nat → Int
  | 0 => zs.getD 0 0
  | k + 1 => if maxK zs k < zs.getD k 0 then zs.getD k 0 else maxK zs k
def maxI (zs : List Int) : Int := maxK zs zs.length
theorem maxK_one (zs : List Int) : maxK zs 1 = zs.getD 0 0 := by simp [maxK]
theorem maxK_le {zs : List Int} {c : Int} : ∀ k, 1 ≤ k → k ≤ zs.length → (maxK zs k ≤ c ↔ ∀ j, j < k → zs.getD j 0 ≤ c)
  | 0, h, _ => by omega
  | 1, _, _ => by rw [maxK_one]; exact ⟨fun h j hj => (show j = 0 by omega) ▸ h, fun h => h 0 (by omega)⟩
  | k + 2, _, hk => by
    have ih := maxK_le (zs := zs) (c := c) (k + 1) (by omega) (by omega)
    rw [maxK]
    constructor
    · intro h j hj
      rcases Nat.lt_or_ge j (k + 1) with h1 | h1
      · refine ih.1 ?_ j h1
        split at h <;> omega
      · obtain rfl : j = k + 1 := by omega
        split at h <;> omega
    · intro h
      have h1 := ih.2 (fun j hj => h j (by omega))
      have h2 := h (k + 1) (by omega)
      split <;> omega
theorem maxI_le {zs : List Int} {c : Int} (h : 1 ≤ zs.length) : decide (maxI zs ≤ c) = zs.all (fun z => decide (z ≤ c)) := by
  rw [Bool.eq_iff_iff, decide_eq_true_eq, List.all_eq_true]
  unfold maxI
  rw [maxK_le _ h (Nat.le_refl _)]
  constructor
  · intro h x hx
    obtain ⟨j, hj, rfl⟩ := List.getElem_of_mem hx
    have := h j hj
    rw [getD_eq hj] at this
    simpa using this
  · intro h j hj
    rw [getD_eq hj]
    simpa using h zs[j] (List.getElem_mem hj)

set_option maxHeartbeats 800000 in
theorem Max_c (v : Value) (zs : List Int) (w : World) (hr : Rd w v zs.length (ints zs)) (hl : 1 ≤ zs.length) :
    Calls Tryz.prog 93 #[v] w (RetS (.int .i64 (maxI zs)) w) := by
  unfold maxI
  generalize hn : zs.length = n at *
  have HN := Lib.hid hn; clear hn
  obtain ⟨hn, ao, cap, bb, off, rfl, hao, hcell⟩ := hr.open
  clear hr
  have b0 : Below w.heap.size w w := Below.refl _ _
  have b0 : Below w.heap.size w w := Below.refl _ _
  have z0 : w.heap.size ≤ w.heap.size := Nat.le_refl _
  have hlt_y : 0 < zs.length := by rw [HN.out]; omega
  have hix_y := ix (P := Tryz.prog) (T := 42) (cap := cap) Tryz.underlying42 cells_int64 has_int64 hao (k := 0) (by omega) 0 rfl
  rw [Nat.zero_mul, Nat.add_zero] at hix_y
  have hy : w.cell? ⟨bb, off, none⟩ = some (.int .i64 (zs.getD 0 0)) := by
    have := hcell _ b0 _ _ (by omega) (intsAt hlt_y)
    rw [Nat.add_zero] at this
    rw [getD_eq hlt_y]; exact this
  go_enter Tryz.func93, Tryz.ntmps93
  go_wp2_with fail
  go_loop [4, 3] (fun i s => ∃ (k : Nat), 1 ≤ k ∧ k ≤ n ∧ i = .int .i64 k ∧ s = .int .i64 (maxK zs k)) (fun i _ => n - (intOf i).toNat)
  case atStart => exact ⟨1, Nat.le_refl _, hl, rfl, by rw [maxK_one, getD_eq hlt_y]⟩
  case round =>
    obtain ⟨k, hk1, hk, rfl, rfl⟩ := hrel
    by_cases hlt : k < n
    · skip
      have hlt_z : k < zs.length := by rw [HN.out]; omega
      have hix_z := ix (P := Tryz.prog) (T := 42) (cap := cap) Tryz.underlying42 cells_int64 has_int64 hao (k := k) (by omega) _ (rfl)
      rw [Nat.mul_one] at hix_z
      have hz : w.cell? ⟨bb, off + k, none⟩ = some (.int .i64 (zs.getD k 0)) := by rw [getD_eq hlt_z]; exact hcell _ b0 _ _ (by omega) (intsAt hlt_z)
      have hs : maxK zs (k + 1) = if maxK zs k < zs.getD k 0 then zs.getD k 0 else maxK zs k := rfl
      have HS := Lib.hid hs; clear hs
      clear hcell hlt_z
      generalize zs.getD k 0 = z at *
      generalize maxK zs k = s at *
      go_wp2
      go_round
      case rel => exact ⟨k + 1, by omega, by omega, by go_num, by rw [HS.out]⟩
      case measure => simp [intOf]; omega
    · obtain rfl : k = n := by omega
      clear hcell
      go_wp2
      go_returns
      exact RetS.mk rfl

def sortI (ps : List (Int × Int)) : List (Int × Int) × Int := if cutsB ps then (if (sumsOf ps).all (fun z => decide (z ≤ 20)) then (cutsL (sumsOf ps), 0) else ([], 5)) else ([], 1)
theorem cutsL_len (zs : List Int) : (cutsL zs).length ≤ zs.length := cutsK_len zs _
theorem sortI_len (ps : List (Int × Int)) : (sortI ps).1.length ≤ 8 := by
  unfold sortI
  split
  · split
    · have := cutsL_len (sumsOf ps); rw [sumsOf_len] at this; exact this
    · simp
  · simp
theorem RetC2.nil {w w' : World} {c : Value} (h : Below w.heap.size w w') : RetC2 [] c w (.returned (.tuple #[.slice none 0 0, c])) w' := ⟨_, rfl, World.ownsRow_nil _ _ _ _, h⟩

set_option maxHeartbeats 800000 in
theorem implSortCuts_c (v : Value) (ps : List (Int × Int)) (w : World) (h : Rd w v ps.length (pairs ps)) :
    Calls Tryz.prog 35 #[v] w (RetC2 (sortI ps).1 (.int .i64 (sortI ps).2) w) := by
  have hv := fun w' (hb : Below w.heap.size w w') => ValidCuts_c v ps w' (h.later hb)
  have hs := fun ht w' (hb : Below w.heap.size w w') => stepsOf_c v ps w' (h.later hb) ht
  obtain ⟨hn, ao, cap, b, off, rfl, hao, hcell⟩ := h.open
  clear h hcell hao
  cases t0 : cutsB ps <;> rw [t0] at hv
  · have HV := Lib.hid hv; clear hv
    clear hs
    have he : sortI ps = ([], 1) := by simp [sortI, t0]
    rw [he]
    go_enter Tryz.func35, Tryz.ntmps35
    have b0 : Below w.heap.size w w := Below.refl _ _
    have z0 : w.heap.size ≤ w.heap.size := Nat.le_refl _
    go_wp2_with fail
    refine (HV.out _ b0).mono ?_
    rintro _ w1 ⟨rfl, r1⟩
    have s1 := r1
    have b1 := b0.trans (s1.mono z0)
    have z1 := b1.size
    have y1 := s1.size
    clear r1
    go_wp2
    go_returns
    exact RetC2.nil b1
  · have HV := Lib.hid hv; clear hv
    have hs := hs t0
    have HS := Lib.hid hs; clear hs
    have he : sortI ps = if (sumsOf ps).all (fun z => decide (z ≤ 20)) then (cutsL (sumsOf ps), 0) else ([], 5) := by simp [sortI, t0]
    have hl := sumsOf_len ps
    generalize sumsOf ps = zs at *
    have hm := maxI_le (zs := zs) (c := 20) (by omega)
    have hf := fun u w' (h : Rd w' u zs.length (ints zs)) => Max_c u zs w' h (by omega)
    have hc := fun u w' (h : Rd w' u zs.length (ints zs)) => cutsOf_c u zs w' h (by omega)
    have HC := Lib.hid hc; clear hc
    have HF := Lib.hid hf; clear hf
    rw [← hm] at he
    clear hm
    generalize maxI zs = m at *
    have HL := Lib.hid hl; clear hl
    by_cases t1 : m ≤ 20
    · rw [if_pos (by simpa using t1)] at he
      rw [he]
      clear he
      go_enter Tryz.func35, Tryz.ntmps35
      have b0 : Below w.heap.size w w := Below.refl _ _
      have z0 : w.heap.size ≤ w.heap.size := Nat.le_refl _
      go_wp2_with fail
      refine (HV.out _ b0).mono ?_
      rintro _ w1 ⟨rfl, r1⟩
      have s1 := r1
      have b1 := b0.trans (s1.mono z0)
      have z1 := b1.size
      have y1 := s1.size
      clear r1
      go_wp2_with fail
      refine (HS.out _ b1).mono ?_
      rintro _ w2 ⟨u, rfl, ho, r2⟩
      have h2 := Rd.of_own ho
      have HO := Lib.hid ho; clear ho
      have b2 := b1.trans (r2.mono z1)
      go_wp2_with (first | (go_at_call 93; refine (HF.out _ _ h2).mono ?_; rintro _ _ ⟨rfl, rfl⟩) | (go_at_call 94; refine (HC.out _ _ h2).mono ?_; rintro _ w3 ⟨u3, rfl, ho3, r3⟩; have HO3 := Lib.hid ho3; clear ho3))
      go_returns
      exact ⟨_, rfl, own_base HO3.out b2.size, b2.trans (r3.mono b2.size)⟩
    · rw [if_neg (by simpa using t1)] at he
      rw [he]
      clear he
      go_enter Tryz.func35, Tryz.ntmps35
      have b0 : Below w.heap.size w w := Below.refl _ _
      have z0 : w.heap.size ≤ w.heap.size := Nat.le_refl _
      go_wp2_with fail
      refine (HV.out _ b0).mono ?_
      rintro _ w1 ⟨rfl, r1⟩
      have s1 := r1
      have b1 := b0.trans (s1.mono z0)
      have z1 := b1.size
      have y1 := s1.size
      clear r1
      go_wp2_with fail
      refine (HS.out _ b1).mono ?_
      rintro _ w2 ⟨u, rfl, ho, r2⟩
      have h2 := Rd.of_own ho
      have HO := Lib.hid ho; clear ho
      have b2 := b1.trans (r2.mono z1)
      go_wp2_with (first | (go_at_call 93; refine (HF.out _ _ h2).mono ?_; rintro _ _ ⟨rfl, rfl⟩))
      go_returns
      exact RetC2.nil b2

end Go.Proofs.YtgdadbmhdljcdaaGreatDoor

/- How many steps a zone allows. -/
namespace Go.Proofs.YtgdadbmhdljcdaaGreatDoor
set_option linter.unusedVariables false
open Go.RowKit Go.Proofs.Bell Go.BigFrame

def oneAt (n z : Nat) (s : Int) : List Int := (List.replicate n 0).set z s
def turn1 (zs : List Int) (z : Nat) (s : Int) (k : Nat) (r : Int × Int × Int) : Int × Int × Int := (r.1, r.2.1 + 10 * (if zoneI zs k = z then s else 0), r.2.2)
theorem oneAt_getD (n z : Nat) (s : Int) (h : z < n) (j : Nat) : (oneAt n z s).getD j 0 = if j = z then s else 0 := by
  unfold oneAt
  simp only [List.getD, List.getElem?_set, List.length_replicate]
  by_cases e : z = j
  · subst e; simp [h]
  · rw [if_neg e, if_neg (fun h => e h.symm), List.getElem?_replicate]
    split <;> rfl
theorem turnT_one (zs : List Int) (n z : Nat) (s : Int) (h : z < n) : turnT zs (oneAt n z s) = turn1 zs z s := by
  funext k r
  simp only [turnT, turn1, oneAt_getD n z s h]
def mostF (ok : Nat → Bool) : Nat → Nat → Nat
  | 0, n => n
  | f + 1, n => if ok (n + 1) then mostF ok f (n + 1) else n
def okSteps (nm : ByteArray) (ps : List (Int × Int × Int)) (zs : List Int) (z : Nat) (s : Nat) : Bool := profB nm (mapK (turn1 zs z s) ps ps.length)
def mostI (nm : ByteArray) (ps : List (Int × Int × Int)) (zs : List Int) (z : Nat) : Nat := mostF (okSteps nm ps zs z) 20 0
theorem mostF_le (ok : Nat → Bool) : ∀ f n, mostF ok f n ≤ n + f
  | 0, n => Nat.le_refl _
  | f + 1, n => by unfold mostF; have := mostF_le ok f (n + 1); split <;> omega
theorem ints_oneAt (n z : Nat) (s : Int) : (List.replicate n (Value.int .i64 0)).set z (.int .i64 s) = ints (oneAt n z s) := by
  simp [ints, oneAt, List.map_set]

end Go.Proofs.YtgdadbmhdljcdaaGreatDoor

/- How many steps a zone allows: the program. -/
namespace Go.Proofs.YtgdadbmhdljcdaaGreatDoor
set_option linter.unusedVariables false
open Go.RowKit Go.Proofs.Bell Go.BigFrame

theorem turn_len (zs : List Int) (n z : Nat) (s : Int) : (oneAt n z s).length = n := by simp [oneAt]

end Go.Proofs.YtgdadbmhdljcdaaGreatDoor

/- MostSteps, both. -/
namespace Go.Proofs.YtgdadbmhdljcdaaGreatDoor
set_option linter.unusedVariables false
open Go.RowKit Go.Proofs.Bell Go.BigFrame

def mostStepsI (nm : ByteArray) (ps : List (Int × Int × Int)) (zs : List Int) (z : Int) : Int × Int := if vzB nm ps zs then (if inB z 0 ((zs.length : Int) - 1) then ((mostI nm ps zs z.toNat : Nat), 0) else (0, 2)) else (0, 1)

end Go.Proofs.YtgdadbmhdljcdaaGreatDoor

