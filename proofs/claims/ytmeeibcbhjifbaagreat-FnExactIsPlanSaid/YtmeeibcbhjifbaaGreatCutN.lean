/- A profile's box and its row, made somewhere in a drawn region: they lie apart. -/
import Derived.Test.YtmeeibcbhjifbaaGreatCutR
namespace Go.Proofs.YtmeeibcbhjifbaaGreat
set_option linter.unusedVariables false
open Go.RowKit Go.Proofs.Bell Go.BigFrame

def CutN (qn0 : ByteArray) (q0 : List (Int × Int × Int)) (t1 : Int) (wk : World) (s6 s7 : Value) (wx : World) : Prop := ∃ (bx : Nat) (ao : Option Addr) (cp : Nat), s6 = .pointer (some ⟨bx, 0, none⟩) ∧ s7 = .int .i64 t1 ∧ wk.heap.size ≤ bx ∧ bx < wx.heap.size ∧ wx.cell? ⟨bx, 0, none⟩ = some (.string qn0) ∧ wx.cell? ⟨bx, 1, none⟩ = some (.slice ao q0.length cp) ∧ OwnR wk.heap.size wx (.slice ao q0.length cp) q0 ∧ Below wk.heap.size wk wx ∧ Hid (∀ k, (Value.slice ao q0.length cp).ownBlock = some k → bx ≠ k)
theorem CutN.set {qn0 : ByteArray} {q0 : List (Int × Int × Int)} {ao : Option Addr} {cp : Nat} {t1 : Int} {wk w1 : World} {bx : Nat} (h : BoxP wk.heap.size w1 bx) (hb : Below wk.heap.size wk w1) {L : Nat} (ho : OwnR L w1 (.slice ao q0.length cp) q0) (hL : bx < L) (hB : wk.heap.size ≤ L) :
    CutN qn0 q0 t1 wk (.pointer (some ⟨bx, 0, none⟩)) (.int .i64 t1) ((w1.setCell ⟨bx, 0, none⟩ (.string qn0)).setCell ⟨bx, 1, none⟩ (.slice ao q0.length cp)) :=
  ⟨bx, ao, cp, rfl, rfl, h.lo, (by simpa using h.lt), ((World.cell?_setCell_other _ _ _ _ (by simp)).trans (World.cell?_setCell_same _ _ _ h.c0)), World.cell?_setCell_same _ _ _ ((World.cell?_setCell_other _ _ _ _ (by simp)).trans h.c1), own_base (own_set (own_set ho (fun k hk => by have := own_lo ho k hk; show bx ≠ k; omega) _) (fun k hk => by have := own_lo ho k hk; show bx ≠ k; omega) _) hB, ((hb.setCell h.lo _).setCell h.lo _), Lib.hid fun k hk => by have := own_lo ho k hk; omega⟩
theorem CutN.mk {qn0 : ByteArray} {q0 : List (Int × Int × Int)} {ao : Option Addr} {cp : Nat} {t1 : Int} {wk w1 : World} (hb : Below wk.heap.size wk w1) {L : Nat} (ho : OwnR L w1 (.slice ao q0.length cp) q0) (hB : wk.heap.size ≤ L) :
    CutN qn0 q0 t1 wk (.pointer (some ⟨w1.heap.size, 0, none⟩)) (.int .i64 t1) (w1.alloc (.cells #[.string qn0, .slice ao q0.length cp] 42)) :=
  ⟨w1.heap.size, ao, cp, rfl, rfl, hb.size, by simp, by simp [go_sem], by simp [go_sem], own_base (own_later ho ((Below.refl _ _).alloc (Nat.le_refl _) _)) hB, hb.alloc hb.size _, Lib.hid fun k hk => by have := own_lt ho k hk; omega⟩

end Go.Proofs.YtmeeibcbhjifbaaGreat
