/- An element is struck out of a list of one's own: slices.Delete at rings. -/
import Derived.Test.YtjlenafdpoknhaaGE
import Derived.Lib.SliceRun
import Derived.Deep.RegionLaw
namespace Go.Proofs.Ytjlenafdpoknhaa
set_option linter.unusedVariables false
open Go.RowKit Go.Proofs.Bell Go.BigFrame

/-- a run of values laid over a list -/
def layL (xs : List Value) : Nat → List Value → List Value
  | _, [] => xs
  | o, v :: r => layL (xs.set o v) (o + 1) r
theorem layL_len : ∀ (vs : List Value) (o : Nat) (xs : List Value), (layL xs o vs).length = xs.length
  | [], _, _ => rfl
  | v :: r, o, xs => by rw [layL, layL_len r]; simp
theorem layL_get : ∀ (vs : List Value) (o : Nat) (xs : List Value) (t : Nat), o + vs.length ≤ xs.length → (layL xs o vs)[t]? = if o ≤ t ∧ t < o + vs.length then vs[t - o]? else xs[t]?
  | [], o, xs, t, _ => by simp [layL]; intro h1 h2; omega
  | v :: r, o, xs, t, h => by
    rw [layL, layL_get r (o + 1) (xs.set o v) t (by simp at h ⊢; omega)]
    simp only [List.length_cons] at h ⊢
    by_cases h1 : o + 1 ≤ t ∧ t < o + 1 + r.length
    · rw [if_pos h1, if_pos (by omega), show t - o = (t - (o + 1)) + 1 by omega, List.getElem?_cons_succ]
    · rw [if_neg h1]
      by_cases h2 : t = o
      · subst h2
        rw [if_pos (by omega), List.getElem?_set_self (by omega)]; simp
      · rw [if_neg (by omega), List.getElem?_set_ne (by omega)]
theorem own_setCells {base : Nat} {e : TypeId} {size g n cap : Nat} : ∀ (vs : List Value) (o : Nat) (w : World) (xs : List Value), w.ownsRow base e size (.slice (some ⟨g, 0, none⟩) n cap) n xs →
    (w.setCells g o vs).ownsRow base e size (.slice (some ⟨g, 0, none⟩) n cap) n (layL xs o vs)
  | [], _, _, _, h => h
  | v :: r, o, w, xs, h => own_setCells r (o + 1) _ _ (World.ownsRow.stored h o v).1
theorem own_cut {base : Nat} {e : TypeId} {size g n m cap : Nat} {w : World} {xs : List Value} (h : w.ownsRow base e size (.slice (some ⟨g, 0, none⟩) n cap) n xs) (hm : m ≤ n) :
    w.ownsRow base e size (.slice (some ⟨g, 0, none⟩) m cap) m (xs.take (m * size)) := by
  have hle : m * size ≤ n * size := Nat.mul_le_mul_right _ hm
  rcases h.2 with ⟨h', _⟩ | ⟨g', cap', cur, h', hb, hg, hnc, hcm, hcs, htake⟩
  · simp at h'
  · simp only [Value.slice.injEq, Option.some.injEq, Addr.mk.injEq, and_true, true_and] at h'
    obtain ⟨rfl, rfl⟩ := h'
    refine ⟨by rw [List.length_take, h.1]; omega, .inr ⟨g, cap, cur, rfl, hb, hg, by omega, hcm, hcs, ?_⟩⟩
    rw [← htake, List.take_take, Nat.min_eq_left hle]
theorem only_setCells {g : Nat} : ∀ (vs : List Value) (o : Nat) (w w' : World), Only (fun b => b = g) w w' → Only (fun b => b = g) w (w'.setCells g o vs)
  | [], _, _, _, h => h
  | v :: r, o, w, w', h => only_setCells r (o + 1) w _ (h.setCell rfl v)
theorem trips_app (a b : List (Int × Int × Int)) : trips (a ++ b) = trips a ++ trips b := by simp [trips]
theorem trips_take (ps : List (Int × Int × Int)) : ∀ k, (trips ps).take (k * 3) = trips (ps.take k) := by
  induction ps with
  | nil => intro k; simp [trips]
  | cons a ps ih =>
    intro k
    cases k with
    | zero => simp [trips]
    | succ k => rw [show (k + 1) * 3 = k * 3 + 1 + 1 + 1 by omega, trips_cons, List.take_succ_cons, List.take_succ_cons, List.take_succ_cons, ih k, List.take_succ_cons, trips_cons]
theorem trips_drop (ps : List (Int × Int × Int)) : ∀ k, (trips ps).drop (k * 3) = trips (ps.drop k) := by
  induction ps with
  | nil => intro k; simp [trips]
  | cons a ps ih =>
    intro k
    cases k with
    | zero => simp
    | succ k => rw [show (k + 1) * 3 = k * 3 + 1 + 1 + 1 by omega, trips_cons, List.drop_succ_cons, List.drop_succ_cons, List.drop_succ_cons, ih k, List.drop_succ_cons]
theorem struck {ps : List (Int × Int × Int)} {i : Nat} (hi : i < ps.length) (z : List Value) (hz : z.length = 3) :
    (layL (layL (trips ps) (i * 3) (trips (ps.drop (i + 1)))) ((ps.length - 1) * 3) z).take ((ps.length - 1) * 3) = trips (ps.take i ++ ps.drop (i + 1)) := by
  have l0 := trips_len ps
  have l1 := trips_len (ps.drop (i + 1))
  have l2 := trips_len (ps.take i)
  rw [List.length_drop] at l1
  rw [List.length_take] at l2
  rw [trips_app]
  apply List.ext_getElem?
  intro t
  rw [List.getElem?_take]
  by_cases c : t < (ps.length - 1) * 3
  · rw [if_pos c, layL_get _ _ _ _ (by rw [layL_len]; omega), if_neg (by omega), layL_get _ _ _ _ (by omega)]
    by_cases d : t < i * 3
    · rw [if_neg (by omega), List.getElem?_append_left (by omega), ← trips_take, List.getElem?_take, if_pos d]
    · rw [if_pos (by omega), List.getElem?_append_right (by omega)]
      congr 1; omega
  · rw [if_neg c, List.getElem?_eq_none]
    rw [List.length_append]; omega

theorem run_clear_R (w : World) (ty : TypeId) (b o c : Nat) (hc : ∀ j, j < 3 → (w.cell? ⟨b, o + j, none⟩).isSome = true) (hf : ∀ j, j < 3 → w.frozen? ⟨b, o + j, none⟩ = false) :
    (Builtin.clear_ #[26] ty #[.slice (some ⟨b, o, none⟩) 1 c]).run Try.prog w = .ok (.tuple #[]) (w.setCells b o [.int .i64 0, .int .i64 0, .int .i64 0]) := by
  have hz : (zeroValue 38).run Try.prog w = .ok (.agg #[.int .i64 0, .int .i64 0, .int .i64 0]) w := Try.zeroValue38 w
  have hst := run_storeCells_cells (P := Try.prog) b o [.int .i64 0, .int .i64 0, .int .i64 0] 0 w (by simpa using hc) (by simpa using hf) (by simp [Value.oneCell'])
  simp only [Nat.add_zero] at hst
  have hzc : (Builtin.zeroCells (Value.agg #[.int .i64 0, .int .i64 0, .int .i64 0]).cells 1).toList = [.int .i64 0, .int .i64 0, .int .i64 0] := by kernel_rfl
  simp [Builtin.clear_, run_underlying Try.underlying26, hz, hzc, hst]

end Go.Proofs.Ytjlenafdpoknhaa
