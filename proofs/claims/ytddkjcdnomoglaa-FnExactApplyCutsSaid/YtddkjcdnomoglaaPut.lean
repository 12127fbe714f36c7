/- A list of one's own, changed in place. -/
import Derived.Test.YtddkjcdnomoglaaResh
import Derived.Test.YtddkjcdnomoglaaVols
import Derived.Laws.OwnMore
import Derived.Deep.AppendLies
namespace Go.Proofs.Ytddkjcdnomoglaa
set_option linter.unusedVariables false
open Go.RowKit Go.Proofs.Bell Go.BigFrame

theorem trips_cons (a : Int × Int × Int) (qs : List (Int × Int × Int)) : trips (a :: qs) = .int .i64 a.1 :: .int .i64 a.2.1 :: .int .i64 a.2.2 :: trips qs := by simp [trips]
theorem trips_put0 : ∀ (qs : List (Int × Int × Int)) (k : Nat) (z : Int), k < qs.length → (trips qs).set (k * 3) (.int .i64 z) = trips (qs.set k (z, (rg qs k).2))
  | [], _, _, h => by simp at h
  | a :: qs, 0, z, _ => by simp [trips_cons, rg]
  | a :: qs, k + 1, z, h => by
    rw [show (k + 1) * 3 = k * 3 + 1 + 1 + 1 by omega, trips_cons, List.set_cons_succ, List.set_cons_succ, List.set_cons_succ, trips_put0 qs k z (by simpa using h), List.set_cons_succ, trips_cons]
    simp [rg]
theorem trips_put1 : ∀ (qs : List (Int × Int × Int)) (k : Nat) (z : Int), k < qs.length → (trips qs).set (k * 3 + 1) (.int .i64 z) = trips (qs.set k ((rg qs k).1, z, (rg qs k).2.2))
  | [], _, _, h => by simp at h
  | a :: qs, 0, z, _ => by simp [trips_cons, rg]
  | a :: qs, k + 1, z, h => by
    rw [show (k + 1) * 3 + 1 = (k * 3 + 1) + 1 + 1 + 1 by omega, trips_cons, List.set_cons_succ, List.set_cons_succ, List.set_cons_succ, trips_put1 qs k z (by simpa using h), List.set_cons_succ, trips_cons]
    simp [rg]

/-- the first `k` elements changed -/
def mixK (T : Nat → Int × Int × Int → Int × Int × Int) (ps : List (Int × Int × Int)) (k : Nat) : List (Int × Int × Int) := mapK T ps k ++ ps.drop k
theorem mix_len (T : Nat → Int × Int × Int → Int × Int × Int) {ps : List (Int × Int × Int)} {k : Nat} (h : k ≤ ps.length) : (mixK T ps k).length = ps.length := by
  simp [mixK, mapK_len]; omega
theorem mix_at (T : Nat → Int × Int × Int → Int × Int × Int) {ps : List (Int × Int × Int)} {k j : Nat} (h : k ≤ j) (hj : j < ps.length) : rg (mixK T ps k) j = rg ps j := by
  have : (mixK T ps k)[j]? = ps[j]? := by
    rw [mixK, List.getElem?_append_right (by rw [mapK_len]; exact h), mapK_len, List.getElem?_drop]
    congr 1; omega
  simp [rg, List.getD, this]
theorem mix_set (T : Nat → Int × Int × Int → Int × Int × Int) {ps : List (Int × Int × Int)} {k : Nat} (h : k < ps.length) : (mixK T ps k).set k (T k (rg ps k)) = mixK T ps (k + 1) := by
  have h1 : ps.drop k = rg ps k :: ps.drop (k + 1) := by rw [rg_eq h]; exact List.drop_eq_getElem_cons h
  rw [mixK, List.set_append_right _ _ (by rw [mapK_len]; exact Nat.le_refl _), mapK_len, h1, Nat.sub_self, List.set_cons_zero, mixK, mapK]
  simp
theorem mix_zero (T : Nat → Int × Int × Int → Int × Int × Int) (ps : List (Int × Int × Int)) : mixK T ps 0 = ps := by simp [mixK, mapK]
theorem mix_end (T : Nat → Int × Int × Int → Int × Int × Int) (ps : List (Int × Int × Int)) : mixK T ps ps.length = mapK T ps ps.length := by simp [mixK]

/-- the state of a walk that changes its own list: the boxes of the result and of the profile -/
structure InPl (R G : Nat) (nm : ByteArray) (v : Value) (qs : List (Int × Int × Int)) (w wr : World) : Prop where
  below : Below w.heap.size w wr
  lo : w.heap.size ≤ R
  r0 : wr.cell? ⟨R, 0, none⟩ = some (.string ⟨#[]⟩)
  r1 : wr.cell? ⟨R, 1, none⟩ = some (.slice none 0 0)
  rf : ∀ j, wr.frozen? ⟨R, j, none⟩ = false
  q0 : wr.cell? ⟨G, 0, none⟩ = some (.string nm)
  q1 : wr.cell? ⟨G, 1, none⟩ = some v
  own : OwnR (R + 1) wr v qs
  ne : ∀ k, v.ownBlock = some k → R ≠ k ∧ G ≠ k
theorem InPl.later {R G : Nat} {nm : ByteArray} {v : Value} {qs : List (Int × Int × Int)} {w wr w1 : World} (h : InPl R G nm v qs w wr) (hb : Below wr.heap.size wr w1) : InPl R G nm v qs w w1 :=
  ⟨h.below.trans (hb.mono h.below.size), h.lo, below_cell hb h.r0, below_cell hb h.r1,
   fun j => (hb.frozen (p := ⟨R, j, none⟩) (show R < _ from World.block_lt_of_cell? _ ⟨R, 0, none⟩ h.r0)).trans (h.rf j),
   below_cell hb h.q0, below_cell hb h.q1, own_later h.own hb, h.ne⟩
theorem InPl.put {R G : Nat} {nm : ByteArray} {g n cap : Nat} {qs qs' : List (Int × Int × Int)} {w wr : World} (h : InPl R G nm (.slice (some ⟨g, 0, none⟩) n cap) qs w wr) (hn : n = qs.length) (j : Nat) (u : Value) (hl : qs'.length = qs.length) (he : (trips qs).set j u = trips qs') :
    InPl R G nm (.slice (some ⟨g, 0, none⟩) n cap) qs' w (wr.setCell ⟨g, j, none⟩ u) := by
  subst hn
  obtain ⟨n1, n2⟩ := h.ne g rfl
  have hg := own_lo h.own g rfl
  refine ⟨h.below.setCell (show w.heap.size ≤ g by have := h.lo; omega) _, h.lo, ?_, ?_, fun j => ?_, ?_, ?_, ?_, h.ne⟩
  · rw [World.cell?_setCell_other _ _ _ _ (by simp [n1])]; exact h.r0
  · rw [World.cell?_setCell_other _ _ _ _ (by simp [n1])]; exact h.r1
  · rw [World.frozen?_setCell]; exact h.rf j
  · rw [World.cell?_setCell_other _ _ _ _ (by simp [n2])]; exact h.q0
  · rw [World.cell?_setCell_other _ _ _ _ (by simp [n2])]; exact h.q1
  · have := (World.ownsRow.stored h.own j u).1
    unfold OwnR
    rw [hl, ← he]
    exact this
theorem InPl.cells {R G : Nat} {nm : ByteArray} {g n cap : Nat} {qs : List (Int × Int × Int)} {w wr : World} (h : InPl R G nm (.slice (some ⟨g, 0, none⟩) n cap) qs w wr) (hn : n = qs.length) {k : Nat} (hk : k < n) :
    wr.cell? ⟨g, k * 3, none⟩ = some (.int .i64 (rg qs k).1) ∧ wr.cell? ⟨g, k * 3 + 1, none⟩ = some (.int .i64 (rg qs k).2.1) ∧ wr.cell? ⟨g, k * 3 + 2, none⟩ = some (.int .i64 (rg qs k).2.2) := by
  subst hn
  have t := trips_at hk
  rw [← rg_eq hk] at t
  exact ⟨(World.ownsRow.cellAt h.own _ (by omega)).trans t.1, (World.ownsRow.cellAt h.own _ (by omega)).trans t.2.1, (World.ownsRow.cellAt h.own _ (by omega)).trans t.2.2⟩
theorem InPl.frozen {R G : Nat} {nm : ByteArray} {g n cap : Nat} {qs : List (Int × Int × Int)} {w wr : World} (h : InPl R G nm (.slice (some ⟨g, 0, none⟩) n cap) qs w wr) (hn : n = qs.length) (j : Nat) : wr.frozen? ⟨g, j, none⟩ = false := by
  subst hn
  exact World.ownsRow.frozenAt h.own j

end Go.Proofs.Ytddkjcdnomoglaa
