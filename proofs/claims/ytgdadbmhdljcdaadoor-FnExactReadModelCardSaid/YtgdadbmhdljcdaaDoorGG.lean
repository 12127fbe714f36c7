/- Several texts of the proofs in one: Cuts3, Cuts4, Sort. -/
import Derived.Test.YtgdadbmhdljcdaaDoorGA
import Derived.Test.YtgdadbmhdljcdaaDoorGB
import Derived.Test.YtgdadbmhdljcdaaDoorGC
/- Cuts: the sums of steps, in all and for each zone. -/
namespace Go.Proofs.YtgdadbmhdljcdaaDoor
set_option linter.unusedVariables false
open Go.RowKit Go.Proofs.Bell Go.BigFrame

/-- the sum of all steps -/
def sumSteps (ps : List (Int × Int)) : Int := (ps.map (·.2)).sum
theorem sumSteps_snoc (ps : List (Int × Int)) {k : Nat} (h : k < ps.length) : sumSteps (ps.take (k + 1)) = sumSteps (ps.take k) + ps[k].2 := by
  show ((ps.take (k + 1)).map (·.2)).sum = ((ps.take k).map (·.2)).sum + _
  rw [List.take_succ_eq_append_getElem h, List.map_append, List.sum_append]; simp
theorem sumSteps_bd {ps : List (Int × Int)} (h : ps.all cutB = true) : ∀ k, 0 ≤ sumSteps (ps.take k) ∧ sumSteps (ps.take k) ≤ 20 * k := by
  intro k
  induction k with
  | zero => simp [sumSteps]
  | succ k ih =>
    rcases Nat.lt_or_ge k ps.length with hk | hk
    · rw [sumSteps_snoc ps hk]
      have h1 := List.all_eq_true.1 h ps[k] (List.getElem_mem hk)
      simp only [cutB, Bool.and_eq_true] at h1
      have := inB_t h1.2
      omega
    · rw [List.take_of_length_le (by omega)] at ih ⊢; omega

def totalI (ps : List (Int × Int)) : Int × Int := if cutsB ps then (sumSteps ps, 0) else (0, 1)

/-- the steps of one zone, of all zones -/
def zoneSum (ps : List (Int × Int)) (z : Nat) : Int := ((ps.filter (fun p => p.1 == (z : Int))).map (·.2)).sum
def sumsOf (ps : List (Int × Int)) : List Int := (List.range 8).map (zoneSum ps)
theorem sumsOf_len (ps : List (Int × Int)) : (sumsOf ps).length = 8 := by simp [sumsOf]
theorem sumsOf_at (ps : List (Int × Int)) {z : Nat} (h : z < 8) : (sumsOf ps)[z]? = some (zoneSum ps z) := by
  simp only [sumsOf, List.getElem?_map, List.getElem?_range h, Option.map_some]
theorem zoneSum_snoc (ps : List (Int × Int)) (p : Int × Int) (z : Nat) : zoneSum (ps ++ [p]) z = zoneSum ps z + if p.1 = (z : Int) then p.2 else 0 := by
  unfold zoneSum
  rw [List.filter_append, List.map_append, List.sum_append]
  by_cases h : p.1 = (z : Int) <;> simp [List.filter_cons, h]
theorem sumsOf_snoc (ps : List (Int × Int)) {k : Nat} (h : k < ps.length) {z : Nat} (hz : ps[k].1 = (z : Int)) : sumsOf (ps.take (k + 1)) = (sumsOf (ps.take k)).set z (zoneSum (ps.take k) z + ps[k].2) := by
  apply List.ext_getElem?
  intro j
  rw [List.take_succ_eq_append_getElem h]
  rcases Nat.lt_or_ge j 8 with hj | hj
  · rw [sumsOf_at _ hj, zoneSum_snoc, hz]
    by_cases e : z = j
    · subst e; rw [List.getElem?_set_self (by rw [sumsOf_len]; exact hj)]; simp
    · rw [List.getElem?_set_ne e, sumsOf_at _ hj]
      have : ¬ ((z : Int) = (j : Int)) := by omega
      simp [this]
  · rw [List.getElem?_eq_none (by rw [sumsOf_len]; exact hj), List.getElem?_eq_none (by rw [List.length_set, sumsOf_len]; exact hj)]
theorem zoneSum_bd {ps : List (Int × Int)} (h : ps.all cutB = true) (z : Nat) : ∀ k, 0 ≤ zoneSum (ps.take k) z ∧ zoneSum (ps.take k) z ≤ 20 * k := by
  intro k
  induction k with
  | zero => simp [zoneSum]
  | succ k ih =>
    rcases Nat.lt_or_ge k ps.length with hk | hk
    · rw [List.take_succ_eq_append_getElem hk, zoneSum_snoc]
      have h1 := List.all_eq_true.1 h ps[k] (List.getElem_mem hk)
      simp only [cutB, Bool.and_eq_true] at h1
      have := inB_t h1.2
      split <;> omega
    · rw [List.take_of_length_le (by omega)] at ih ⊢; omega

theorem ints_set (zs : List Int) (z : Nat) (x : Int) : (ints zs).set z (.int .i64 x) = ints (zs.set z x) := by simp [ints]

theorem sum_set : ∀ (l : List Int) (z : Nat) (x y : Int), l[z]? = some y → (l.set z x).sum = l.sum + x - y
  | [], z, x, y, h => by simp at h
  | a :: l, 0, x, y, h => by simp at h; subst h; simp; omega
  | a :: l, z + 1, x, y, h => by
    simp only [List.getElem?_cons_succ] at h
    have := sum_set l z x y h
    simp only [List.set_cons_succ, List.sum_cons]
    omega
theorem sum_sumsOf {ps : List (Int × Int)} (h : ps.all cutB = true) : ∀ k, (sumsOf (ps.take k)).sum = sumSteps (ps.take k) := by
  intro k
  induction k with
  | zero => rfl
  | succ k ih =>
    rcases Nat.lt_or_ge k ps.length with hk | hk
    · have h1 := List.all_eq_true.1 h ps[k] (List.getElem_mem hk)
      simp only [cutB, Bool.and_eq_true] at h1
      obtain ⟨q1, q2⟩ := inB_t h1.1
      obtain ⟨z, hz⟩ := Int.eq_ofNat_of_zero_le q1
      rw [sumsOf_snoc ps hk hz, sum_set _ z _ _ (sumsOf_at _ (by omega)), ih, sumSteps_snoc ps hk]
      omega
    · rw [List.take_of_length_le (by omega)] at ih ⊢; exact ih

end Go.Proofs.YtgdadbmhdljcdaaDoor

/- The reference's ValidCuts. -/
namespace Go.Proofs.YtgdadbmhdljcdaaDoor
set_option linter.unusedVariables false
open Go.RowKit Go.Proofs.Bell Go.BigFrame

end Go.Proofs.YtgdadbmhdljcdaaDoor

/- Cuts sorted: one cut for each zone with steps. -/
namespace Go.Proofs.YtgdadbmhdljcdaaDoor
set_option linter.unusedVariables false
open Go.RowKit Go.Proofs.Bell Go.BigFrame

def cutsK (zs : List Int) : Nat → List (Int × Int)
  | 0 => []
  | k + 1 => cutsK zs k ++ (if 0 < zs.getD k 0 then [((k : Int), zs.getD k 0)] else [])
theorem cutsK_len (zs : List Int) : ∀ k, (cutsK zs k).length ≤ k
  | 0 => by simp [cutsK]
  | k + 1 => by have := cutsK_len zs k; simp only [cutsK]; split <;> simp <;> omega
theorem cutsK_yes {zs : List Int} {k : Nat} (h : 0 < zs.getD k 0) : cutsK zs (k + 1) = cutsK zs k ++ [((k : Int), zs.getD k 0)] := by rw [cutsK, if_pos h]
theorem cutsK_no {zs : List Int} {k : Nat} (h : ¬ 0 < zs.getD k 0) : cutsK zs (k + 1) = cutsK zs k := by rw [cutsK, if_neg h]; simp
def cutsL (zs : List Int) : List (Int × Int) := cutsK zs zs.length

/-- the greatest of the first `k` numbers, from the first on -/
def maxK (zs : List Int) : Nat → Int
  | 0 => zs.getD 0 0
  | k + 1 => if maxK zs k < zs.getD k 0 then zs.getD k 0 else maxK zs k
def maxI (zs : List Int) : Int := maxK zs zs.length
theorem maxK_one (zs : List Int) : maxK zs 1 = zs.getD 0 0 := by simp [maxK]
theorem maxK_le {zs : List Int} {c : Int} : ∀ k, 1 ≤ k → k ≤ zs.length → (maxK zs k ≤ c ↔ ∀ j, j < k → zs.getD j 0 ≤ c)
  | 0, h, _ => by omega
  | 1, _, _ => by rw [maxK_one]; exact ⟨fun h j hj => (show j = 0 by omega) ▸ h, fun h => h 0 (by omega)⟩
  | k + 2, _, hk => by
    have ih := maxK_le (zs := zs) (c := c) (k + 1) (by omega) (by omega)
    rw [maxK]
    constructor
    · intro h j hj
      rcases Nat.lt_or_ge j (k + 1) with h1 | h1
      · refine ih.1 ?_ j h1
        split at h <;> omega
      · obtain rfl : j = k + 1 := by omega
        split at h <;> omega
    · intro h
      have h1 := ih.2 (fun j hj => h j (by omega))
      have h2 := h (k + 1) (by omega)
      split <;> omega
theorem maxI_le {zs : List Int} {c : Int} (h : 1 ≤ zs.length) : decide (maxI zs ≤ c) = zs.all (fun z => decide (z ≤ c)) := by
  rw [Bool.eq_iff_iff, decide_eq_true_eq, List.all_eq_true]
  unfold maxI
  rw [maxK_le _ h (Nat.le_refl _)]
  constructor
  · intro h x hx
    obtain ⟨j, hj, rfl⟩ := List.getElem_of_mem hx
    have := h j hj
    rw [getD_eq hj] at this
    simpa using this
  · intro h j hj
    rw [getD_eq hj]
    simpa using h zs[j] (List.getElem_mem hj)

set_option maxHeartbeats 800000 in
theorem Max_c (v : Value) (zs : List Int) (w : World) (hr : Rd w v zs.length (ints zs)) (hl : 1 ≤ zs.length) :
    Calls Tryd.prog 87 #[v] w (RetS (.int .i64 (maxI zs)) w) := by
  unfold maxI
  generalize hn : zs.length = n at *
  have HN := Lib.hid hn; clear hn
  obtain ⟨hn, ao, cap, bb, off, rfl, hao, hcell⟩ := hr.open
  clear hr
  have b0 : Below w.heap.size w w := Below.refl _ _
  have b0 : Below w.heap.size w w := Below.refl _ _
  have z0 : w.heap.size ≤ w.heap.size := Nat.le_refl _
  have hlt_y : 0 < zs.length := by rw [HN.out]; omega
  have hix_y := ix (P := Tryd.prog) (T := 22) (cap := cap) Tryd.underlying22 cells_int64 has_int64 hao (k := 0) (by omega) 0 rfl
  rw [Nat.zero_mul, Nat.add_zero] at hix_y
  have hy : w.cell? ⟨bb, off, none⟩ = some (.int .i64 (zs.getD 0 0)) := by
    have := hcell _ b0 _ _ (by omega) (intsAt hlt_y)
    rw [Nat.add_zero] at this
    rw [getD_eq hlt_y]; exact this
  go_enter Tryd.func87, Tryd.ntmps87
  go_wp2_with fail
  go_loop [4, 3] (fun i s => ∃ (k : Nat), 1 ≤ k ∧ k ≤ n ∧ i = .int .i64 k ∧ s = .int .i64 (maxK zs k)) (fun i _ => n - (intOf i).toNat)
  case atStart => exact ⟨1, Nat.le_refl _, hl, rfl, by rw [maxK_one, getD_eq hlt_y]⟩
  case round =>
    obtain ⟨k, hk1, hk, rfl, rfl⟩ := hrel
    by_cases hlt : k < n
    · skip
      have hlt_z : k < zs.length := by rw [HN.out]; omega
      have hix_z := ix (P := Tryd.prog) (T := 22) (cap := cap) Tryd.underlying22 cells_int64 has_int64 hao (k := k) (by omega) _ (rfl)
      rw [Nat.mul_one] at hix_z
      have hz : w.cell? ⟨bb, off + k, none⟩ = some (.int .i64 (zs.getD k 0)) := by rw [getD_eq hlt_z]; exact hcell _ b0 _ _ (by omega) (intsAt hlt_z)
      have hs : maxK zs (k + 1) = if maxK zs k < zs.getD k 0 then zs.getD k 0 else maxK zs k := rfl
      have HS := Lib.hid hs; clear hs
      clear hcell hlt_z
      generalize zs.getD k 0 = z at *
      generalize maxK zs k = s at *
      go_wp2
      go_round
      case rel => exact ⟨k + 1, by omega, by omega, by go_num, by rw [HS.out]⟩
      case measure => simp [intOf]; omega
    · obtain rfl : k = n := by omega
      clear hcell
      go_wp2
      go_returns
      exact RetS.mk rfl

def sortI (ps : List (Int × Int)) : List (Int × Int) × Int := if cutsB ps then (if (sumsOf ps).all (fun z => decide (z ≤ 20)) then (cutsL (sumsOf ps), 0) else ([], 5)) else ([], 1)
theorem cutsL_len (zs : List Int) : (cutsL zs).length ≤ zs.length := cutsK_len zs _
theorem sortI_len (ps : List (Int × Int)) : (sortI ps).1.length ≤ 8 := by
  unfold sortI
  split
  · split
    · have := cutsL_len (sumsOf ps); rw [sumsOf_len] at this; exact this
    · simp
  · simp
theorem RetC2.nil {w w' : World} {c : Value} (h : Below w.heap.size w w') : RetC2 [] c w (.returned (.tuple #[.slice none 0 0, c])) w' := ⟨_, rfl, World.ownsRow_nil _ _ _ _, h⟩

end Go.Proofs.YtgdadbmhdljcdaaDoor

