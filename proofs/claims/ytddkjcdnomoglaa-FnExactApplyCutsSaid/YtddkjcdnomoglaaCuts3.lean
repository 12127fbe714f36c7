/- Cuts: the sums of steps, in all and for each zone. -/
import Derived.Test.YtddkjcdnomoglaaCuts2
import Derived.Test.YtddkjcdnomoglaaNums
namespace Go.Proofs.Ytddkjcdnomoglaa
set_option linter.unusedVariables false
open Go.RowKit Go.Proofs.Bell Go.BigFrame

/-- the sum of all steps -/
def sumSteps (ps : List (Int × Int)) : Int := (ps.map (·.2)).sum
theorem sumSteps_snoc (ps : List (Int × Int)) {k : Nat} (h : k < ps.length) : sumSteps (ps.take (k + 1)) = sumSteps (ps.take k) + ps[k].2 := by
  show ((ps.take (k + 1)).map (·.2)).sum = ((ps.take k).map (·.2)).sum + _
  rw [List.take_succ_eq_append_getElem h, List.map_append, List.sum_append]; simp
theorem sumSteps_bd {ps : List (Int × Int)} (h : ps.all cutB = true) : ∀ k, 0 ≤ sumSteps (ps.take k) ∧ sumSteps (ps.take k) ≤ 20 * k := by
  intro k
  induction k with
  | zero => simp [sumSteps]
  | succ k ih =>
    rcases Nat.lt_or_ge k ps.length with hk | hk
    · rw [sumSteps_snoc ps hk]
      have h1 := List.all_eq_true.1 h ps[k] (List.getElem_mem hk)
      simp only [cutB, Bool.and_eq_true] at h1
      have := inB_t h1.2
      omega
    · rw [List.take_of_length_le (by omega)] at ih ⊢; omega

def totalI (ps : List (Int × Int)) : Int × Int := if cutsB ps then (sumSteps ps, 0) else (0, 1)

/-- the steps of one zone, of all zones -/
def zoneSum (ps : List (Int × Int)) (z : Nat) : Int := ((ps.filter (fun p => p.1 == (z : Int))).map (·.2)).sum
def sumsOf (ps : List (Int × Int)) : List Int := (List.range 8).map (zoneSum ps)
theorem sumsOf_len (ps : List (Int × Int)) : (sumsOf ps).length = 8 := by simp [sumsOf]
theorem sumsOf_at (ps : List (Int × Int)) {z : Nat} (h : z < 8) : (sumsOf ps)[z]? = some (zoneSum ps z) := by
  simp only [sumsOf, List.getElem?_map, List.getElem?_range h, Option.map_some]
theorem zoneSum_snoc (ps : List (Int × Int)) (p : Int × Int) (z : Nat) : zoneSum (ps ++ [p]) z = zoneSum ps z + if p.1 = (z : Int) then p.2 else 0 := by
  unfold zoneSum
  rw [List.filter_append, List.map_append, List.sum_append]
  by_cases h : p.1 = (z : Int) <;> simp [List.filter_cons, h]
theorem sumsOf_snoc (ps : List (Int × Int)) {k : Nat} (h : k < ps.length) {z : Nat} (hz : ps[k].1 = (z : Int)) : sumsOf (ps.take (k + 1)) = (sumsOf (ps.take k)).set z (zoneSum (ps.take k) z + ps[k].2) := by
  apply List.ext_getElem?
  intro j
  rw [List.take_succ_eq_append_getElem h]
  rcases Nat.lt_or_ge j 8 with hj | hj
  · rw [sumsOf_at _ hj, zoneSum_snoc, hz]
    by_cases e : z = j
    · subst e; rw [List.getElem?_set_self (by rw [sumsOf_len]; exact hj)]; simp
    · rw [List.getElem?_set_ne e, sumsOf_at _ hj]
      have : ¬ ((z : Int) = (j : Int)) := by omega
      simp [this]
  · rw [List.getElem?_eq_none (by rw [sumsOf_len]; exact hj), List.getElem?_eq_none (by rw [List.length_set, sumsOf_len]; exact hj)]
theorem zoneSum_bd {ps : List (Int × Int)} (h : ps.all cutB = true) (z : Nat) : ∀ k, 0 ≤ zoneSum (ps.take k) z ∧ zoneSum (ps.take k) z ≤ 20 * k := by
  intro k
  induction k with
  | zero => simp [zoneSum]
  | succ k ih =>
    rcases Nat.lt_or_ge k ps.length with hk | hk
    · rw [List.take_succ_eq_append_getElem hk, zoneSum_snoc]
      have h1 := List.all_eq_true.1 h ps[k] (List.getElem_mem hk)
      simp only [cutB, Bool.and_eq_true] at h1
      have := inB_t h1.2
      split <;> omega
    · rw [List.take_of_length_le (by omega)] at ih ⊢; omega

theorem ints_set (zs : List Int) (z : Nat) (x : Int) : (ints zs).set z (.int .i64 x) = ints (zs.set z x) := by simp [ints]

set_option maxHeartbeats 1600000 in
theorem stepsOf_c (v : Value) (ps : List (Int × Int)) (w : World) (h : Rd w v ps.length (pairs ps)) (ht : cutsB ps = true) :
    Calls Try.prog 107 #[v] w (RetOwnI (sumsOf ps) w) := by
  obtain ⟨i0, hi, hz0, hz1, hz2⟩ := info_parts info_int64
  generalize hn : ps.length = n at h
  have HN := Lib.hid hn; clear hn
  obtain ⟨hn, ao, cap, b, off, rfl, hao, hcell⟩ := h.open
  clear h
  have ha : ps.all cutB = true ∧ ps.length ≤ 64 := by simpa [cutsB] using ht
  have hbd := fun z => zoneSum_bd ha.1 z
  have hn64 : n ≤ 64 := by have := ha.2; rw [HN.out] at this; exact this
  have hA := ha.1
  have HA := Lib.hid hA; clear hA
  clear ha ht
  have HB := Lib.hid hbd; clear hbd
  go_enter Try.func107, Try.ntmps107
  go_wp2_with (at_make; refine wpList_make_full _ rfl _ _ 25 rfl w.heap.size 2 i0 (.int .i64 0) 1 Try.underlying25 hi hz0 hz1 _ _ _ _ 8 rfl rfl (by omega) (by omega) ?b2 ?b3 (Nat.le_refl _) ?_)
  case b2 => rw [hz2]; omega
  case b3 => unfold maxLen; omega
  intro w0 hown0 hg0
  have hb0 : Below w.heap.size w w0 := (Below.refl _ _).grown hg0 (Nat.le_refl _) (fun k h => by cases h)
  go_wp2
  go_loopw [9] (fun i wr => ∃ (k : Nat), k ≤ n ∧ i = .int .i64 k ∧ wr.ownsRow w.heap.size 2 1 (.slice (some ⟨w.heap.size, 0, none⟩) 8 8) 8 (ints (sumsOf (ps.take k))) ∧ Below w.heap.size w wr)
    (fun i _ => n - (intOf i).toNat)
  case atStart => exact ⟨0, Nat.zero_le _, rfl, by rw [toList_madeCells_one] at hown0; exact hown0, hb0⟩
  case round =>
    obtain ⟨k, hk, rfl, hown, hb⟩ := hrel
    by_cases hlt : k < n
    · have hltp : k < ps.length := by rw [HN.out]; exact hlt
      have hix := ix (P := Try.prog) (T := 55) (cap := cap) Try.underlying55 cells_Cut has_Cut hao hlt k rfl
      have hc1 : wr.cell? ⟨b, off + k * 2, none⟩ = some (.int .i64 ps[k].1) := hcell _ hb _ _ (by omega) (pairs_at hltp).1
      have hc2 : wr.cell? ⟨b, off + k * 2 + 1, none⟩ = some (.int .i64 ps[k].2) := hcell _ hb _ _ (by omega) (pairs_at hltp).2
      have hcb := List.all_eq_true.1 HA.out ps[k] (List.getElem_mem hltp)
      simp only [cutB, Bool.and_eq_true] at hcb
      obtain ⟨q1, q2⟩ := inB_t hcb.1
      obtain ⟨q3, q4⟩ := inB_t hcb.2
      clear hcb
      obtain ⟨z, hz⟩ := Int.eq_ofNat_of_zero_le q1
      have hz8 : z < 8 := by omega
      have hs := sumsOf_snoc ps hltp hz
      have HS := Lib.hid hs; clear hs
      rw [hz] at hc1
      clear hz q1 q2
      clear hcell
      have hbz := HB.out z k
      have hg1 := hown.cellAt z (by omega)
      have hu : (ints (sumsOf (ps.take k)))[z]? = some (.int .i64 (zoneSum (ps.take k) z)) := by rw [ints, List.getElem?_map, sumsOf_at _ hz8]; rfl
      rw [hu] at hg1
      clear hu
      have hf1 := hown.frozenAt z
      obtain ⟨s1, s2⟩ := hbz
      generalize zoneSum (ps.take k) z = y at *
      generalize ps[k].2 = st at *
      have hbl : w.heap.size < wr.heap.size := (hown.lt _ rfl).2
      go_wp2_with fail
      go_region
      go_wp2
      go_roundw
      case rel => exact ⟨k + 1, by omega, by go_num, by rw [HS.out, ← ints_set]; exact ((hown.stored z _).1.alloc _).drew, ((hb.setCell (Nat.le_refl _) _).alloc (by simp; exact hb.size) _).drew⟩
      case measure => simp [intOf]; omega
    · obtain rfl : k = n := by omega
      have he : ps.take k = ps := List.take_of_length_le (by rw [HN.out]; exact Nat.le_refl _)
      rw [he] at hown
      go_wp2
      go_returns
      exact ⟨_, rfl, hown, hb⟩

theorem sum_set : ∀ (l : List Int) (z : Nat) (x y : Int), l[z]? = some y → (l.set z x).sum = l.sum + x - y
  | [], z, x, y, h => by simp at h
  | a :: l, 0, x, y, h => by simp at h; subst h; simp; omega
  | a :: l, z + 1, x, y, h => by
    simp only [List.getElem?_cons_succ] at h
    have := sum_set l z x y h
    simp only [List.set_cons_succ, List.sum_cons]
    omega
theorem sum_sumsOf {ps : List (Int × Int)} (h : ps.all cutB = true) : ∀ k, (sumsOf (ps.take k)).sum = sumSteps (ps.take k) := by
  intro k
  induction k with
  | zero => rfl
  | succ k ih =>
    rcases Nat.lt_or_ge k ps.length with hk | hk
    · have h1 := List.all_eq_true.1 h ps[k] (List.getElem_mem hk)
      simp only [cutB, Bool.and_eq_true] at h1
      obtain ⟨q1, q2⟩ := inB_t h1.1
      obtain ⟨z, hz⟩ := Int.eq_ofNat_of_zero_le q1
      rw [sumsOf_snoc ps hk hz, sum_set _ z _ _ (sumsOf_at _ (by omega)), ih, sumSteps_snoc ps hk]
      omega
    · rw [List.take_of_length_le (by omega)] at ih ⊢; exact ih

end Go.Proofs.Ytddkjcdnomoglaa
