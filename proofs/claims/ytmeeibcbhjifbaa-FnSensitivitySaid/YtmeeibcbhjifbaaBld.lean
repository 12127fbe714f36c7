/- A profile built ring by ring. -/
import Derived.Test.YtmeeibcbhjifbaaUB
import Derived.Test.YtmeeibcbhjifbaaVA
namespace Go.Proofs.Ytmeeibcbhjifbaa
set_option linter.unusedVariables false
open Go.RowKit Go.Proofs.Bell Go.BigFrame

/-- the state of a walk that builds a profile: the boxes of the result and of the profile -/
structure Bld (R G : Nat) (nm : ByteArray) (u : Value) (qs : List (Int × Int × Int)) (w wr : World) : Prop where
  below : Below w.heap.size w wr
  lo : w.heap.size ≤ R
  rg : R < G
  r0 : wr.cell? ⟨R, 0, none⟩ = some (.string ⟨#[]⟩)
  r1 : wr.cell? ⟨R, 1, none⟩ = some (.slice none 0 0)
  rf : ∀ j, wr.frozen? ⟨R, j, none⟩ = false
  q0 : wr.cell? ⟨G, 0, none⟩ = some (.string nm)
  q1 : wr.cell? ⟨G, 1, none⟩ = some u
  qf : ∀ j, wr.frozen? ⟨G, j, none⟩ = false
  own : OwnR (G + 1) wr u qs
theorem Bld.size {R G : Nat} {nm : ByteArray} {u : Value} {qs : List (Int × Int × Int)} {w wr : World} (h : Bld R G nm u qs w wr) : G + 1 ≤ wr.heap.size := World.block_lt_of_cell? _ ⟨G, 0, none⟩ h.q0
theorem Bld.later {R G : Nat} {nm : ByteArray} {u : Value} {qs : List (Int × Int × Int)} {w wr w1 : World} (h : Bld R G nm u qs w wr) (hb : Below wr.heap.size wr w1) : Bld R G nm u qs w w1 :=
  ⟨h.below.trans (hb.mono h.below.size), h.lo, h.rg, below_cell hb h.r0, below_cell hb h.r1,
   fun j => (hb.frozen (p := ⟨R, j, none⟩) (show R < _ from World.block_lt_of_cell? _ ⟨R, 0, none⟩ h.r0)).trans (h.rf j),
   below_cell hb h.q0, below_cell hb h.q1,
   fun j => (hb.frozen (p := ⟨G, j, none⟩) (show G < _ from World.block_lt_of_cell? _ ⟨G, 0, none⟩ h.q0)).trans (h.qf j), own_later h.own hb⟩
theorem Bld.n2 {R G : Nat} {nm : ByteArray} {u : Value} {qs : List (Int × Int × Int)} {w wr : World} (h : Bld R G nm u qs w wr) : ¬ u.ownBlock = some G := fun e => by have := own_lo h.own _ e; omega
theorem Bld.n1 {R G : Nat} {nm : ByteArray} {u : Value} {qs : List (Int × Int × Int)} {w wr : World} (h : Bld R G nm u qs w wr) : ¬ u.ownBlock = some R := fun e => by have := own_lo h.own _ e; have := h.rg; omega
theorem Bld.ge {R G : Nat} {nm : ByteArray} {u : Value} {qs : List (Int × Int × Int)} {w wr wx : World} (h : Bld R G nm u qs w wr) {b : Nat} (hb : wx.heap.size ≤ b) (hlt : ∀ k, u.ownBlock = some k → k < wx.heap.size) : ¬ u.ownBlock = some b := fun e => by have := hlt _ e; omega
theorem Bld.only {R G : Nat} {nm : ByteArray} {u v : Value} {qs qs' : List (Int × Int × Int)} {w wr w1 : World} (h : Bld R G nm u qs w wr) (hq : Only (fun b => u.ownBlock = some b) wr w1) (ho : OwnR (G + 1) w1 v qs') : Bld R G nm v qs' w (w1.setCell ⟨G, 1, none⟩ v) := by
  have lo := own_lo h.own
  have n1 := h.n1
  have n2 := h.n2
  have hz := h.size
  have hs := hq.size
  have hl := h.lo
  have hrg := h.rg
  have b1 : Below w.heap.size w w1 := Only.below h.below hq (by omega) (fun k hk => by have := lo k hk; omega)
  have c1 : w1.cell? ⟨G, 1, none⟩ = some u := cell_only hq h.q1 n2
  refine ⟨b1.setCell (show w.heap.size ≤ G by omega) _, hl, hrg, ?_, ?_, fun j => ?_, ?_, World.cell?_setCell_same _ _ _ c1, fun j => ?_, own_set ho (fun k hk => by have := own_lo ho k hk; simp; omega) v⟩
  · rw [World.cell?_setCell_other _ _ _ _ (fun e => by have := congrArg Addr.block e; simp at this; omega)]; exact cell_only hq h.r0 n1
  · rw [World.cell?_setCell_other _ _ _ _ (fun e => by have := congrArg Addr.block e; simp at this; omega)]; exact cell_only hq h.r1 n1
  · rw [World.frozen?_setCell]; exact (frozen_only hq (by simp; omega) n1).trans (h.rf j)
  · rw [World.cell?_setCell_other _ _ _ _ (by simp)]; exact cell_only hq h.q0 n2
  · rw [World.frozen?_setCell]; exact (frozen_only hq (by simp; omega) n2).trans (h.qf j)

end Go.Proofs.Ytmeeibcbhjifbaa
