/- Elements are put into a list: the copy of rings, the make of rings, rows widened. -/
import Derived.Test.YtjlenafdpoknhaaRem4
import Derived.Lib.AppendZerosOnto
import Derived.Lib.Overlaps
import Derived.Laws.IdiomCopy
namespace Go.Proofs.Ytjlenafdpoknhaa
set_option linter.unusedVariables false
open Go.RowKit Go.Proofs.Bell Go.BigFrame

theorem run_copy_R (w : World) (ty : TypeId) (b o m dLen dCap : Nat) (a : Addr) (sLen sCap : Nat) (cs : List Value)
    (hm : m = Nat.min sLen dLen) (hn : cs.length = m * 3)
    (hsrc : ∀ j v, cs[j]? = some v → w.cell? (a.add j) = some v) (hc : ∀ j, j < cs.length → (w.cell? ⟨b, o + j, none⟩).isSome = true) (hf : ∀ j, j < cs.length → w.frozen? ⟨b, o + j, none⟩ = false) (h1 : ∀ v ∈ cs, v.oneCell' = true) :
    (Builtin.copy_ #[26, 26] ty #[.slice (some ⟨b, o, none⟩) dLen dCap, .slice (some a) sLen sCap]).run Try.prog w = .ok (goInt m) (w.setCells b o cs) := by
  have hl := run_loadCells_list (P := Try.prog) w a cs hsrc
  have hst := run_storeCells_cells (P := Try.prog) b o cs 0 w (by simpa using hc) (by simpa using hf) h1
  obtain ⟨i0, hi0, hz0, hz1, hz2⟩ := info_parts info_Ring
  rw [hn] at hl
  simp [Builtin.copy_, run_underlying Try.underlying26, Builtin.lenOf, Builtin.firstCells, sizeOf, typeInfo, hi0, hz1, ← hm, hl, hst]
theorem own_widen {base : Nat} {e : TypeId} {size g n m cap : Nat} {w : World} {xs : List Value} (h : w.ownsRow base e size (.slice (some ⟨g, 0, none⟩) n cap) n xs) (hm : n ≤ m) (hc : m ≤ cap) :
    ∃ ys, w.ownsRow base e size (.slice (some ⟨g, 0, none⟩) m cap) m (xs ++ ys) := by
  have hle : n * size ≤ m * size := Nat.mul_le_mul_right _ hm
  have hle2 : m * size ≤ cap * size := Nat.mul_le_mul_right _ hc
  rcases h.2 with ⟨h', _⟩ | ⟨g', cap', cur, h', hb, hg, hnc, hcm, hcs, htake⟩
  · simp at h'
  · simp only [Value.slice.injEq, Option.some.injEq, Addr.mk.injEq, and_true, true_and] at h'
    obtain ⟨rfl, rfl⟩ := h'
    refine ⟨(cur.toList.take (m * size)).drop (n * size), ?_⟩
    have e : xs ++ (cur.toList.take (m * size)).drop (n * size) = cur.toList.take (m * size) := by
      rw [← htake, show cur.toList.take (n * size) = (cur.toList.take (m * size)).take (n * size) by rw [List.take_take, Nat.min_eq_left hle], List.take_append_drop]
    rw [e]
    refine ⟨?_, .inr ⟨g, cap, cur, rfl, hb, hg, hc, hcm, hcs, rfl⟩⟩
    rw [List.length_take, Array.length_toList, hcs]
    omega
theorem own_of_row {base : Nat} {e : TypeId} {size n cap : Nat} {w : World} {cur : Array Value} (hb : base ≤ w.heap.size) (hm : cap ≤ maxLen) (hs : cur.size = cap * size) (hn : n ≤ cap) :
    (w.alloc (.cells cur e)).ownsRow base e size (.slice (some ⟨w.heap.size, 0, none⟩) n cap) n (cur.toList.take (n * size)) := by
  have hle2 : n * size ≤ cap * size := Nat.mul_le_mul_right _ hn
  refine ⟨?_, .inr ⟨w.heap.size, cap, cur, rfl, hb, heap_alloc_new w _, hn, hm, hs, rfl⟩⟩
  rw [List.length_take, Array.length_toList, hs]
  omega
/-- a ring laid between two parts -/
theorem put_in {ps : List (Int × Int × Int)} {i : Nat} (hi : i ≤ ps.length) (r : Int × Int × Int) {xs : List Value} (hl : xs.length = (ps.length + 1) * 3) (h0 : xs.take (i * 3) = trips (ps.take i)) :
    layL (layL xs (i * 3) (trips [r])) ((i + 1) * 3) (trips (ps.drop i)) = trips (ps.take i ++ r :: ps.drop i) ∧ layL (layL xs ((i + 1) * 3) (trips (ps.drop i))) (i * 3) (trips [r]) = trips (ps.take i ++ r :: ps.drop i) := by
  have l1 := trips_len (ps.drop i)
  have l2 := trips_len (ps.take i)
  rw [List.length_drop] at l1
  rw [List.length_take] at l2
  have l3 : (trips [r]).length = 3 := by simp [trips]
  have hd : trips (r :: ps.drop i) = trips [r] ++ trips (ps.drop i) := by rw [← trips_app]; rfl
  constructor
  · apply List.ext_getElem?
    intro t
    rw [layL_get _ _ _ _ (by rw [layL_len]; omega), layL_get _ _ _ _ (by omega), trips_app, hd]
    by_cases c : t < i * 3
    · rw [if_neg (by omega), if_neg (by omega), List.getElem?_append_left (by omega), ← h0, List.getElem?_take, if_pos c]
    · rw [List.getElem?_append_right (by omega)]
      by_cases d : t < i * 3 + 3
      · rw [if_neg (by omega), if_pos (by omega), List.getElem?_append_left (by omega)]
        congr 1; omega
      · rw [List.getElem?_append_right (by omega)]
        by_cases f : t < (ps.length + 1) * 3
        · rw [if_pos (by omega)]
          congr 1; omega
        · rw [if_neg (by omega), if_neg (by omega), List.getElem?_eq_none (by omega), List.getElem?_eq_none (by omega)]
  · apply List.ext_getElem?
    intro t
    rw [layL_get _ _ _ _ (by rw [layL_len]; omega), layL_get _ _ _ _ (by omega), trips_app, hd]
    by_cases c : t < i * 3
    · rw [if_neg (by omega), if_neg (by omega), List.getElem?_append_left (by omega), ← h0, List.getElem?_take, if_pos c]
    · rw [List.getElem?_append_right (by omega)]
      by_cases d : t < i * 3 + 3
      · rw [if_pos (by omega), List.getElem?_append_left (by omega)]
        congr 1; omega
      · rw [List.getElem?_append_right (by omega)]
        by_cases f : t < (ps.length + 1) * 3
        · rw [if_neg (by omega), if_pos (by omega)]
          congr 1; omega
        · rw [if_neg (by omega), if_neg (by omega), List.getElem?_eq_none (by omega), List.getElem?_eq_none (by omega)]
theorem trips_one {ps : List (Int × Int × Int)} : ∀ v ∈ trips ps, v.oneCell' = true := fun u hu => by
  obtain ⟨p, _, hp⟩ := List.mem_flatMap.1 hu
  simp at hp
  rcases hp with rfl | rfl | rfl <;> rfl

end Go.Proofs.Ytjlenafdpoknhaa
