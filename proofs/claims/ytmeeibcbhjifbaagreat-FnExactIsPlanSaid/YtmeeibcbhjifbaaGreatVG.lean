/- Several texts of the proofs in one: CpM, CpO. -/
import Derived.Test.YtmeeibcbhjifbaaGreatBldN
import Derived.Test.YtmeeibcbhjifbaaGreatCutR
/- A model copied: the start of it. -/
namespace Go.Proofs.YtmeeibcbhjifbaaGreat
set_option linter.unusedVariables false
open Go.RowKit Go.Proofs.Bell Go.BigFrame

theorem BldN.late {R : Nat} {va vb : Value} {zs bs : List Int} {w wb : World} (b : Below w.heap.size w wb) (hw : w.heap.size ≤ R) (hR : R < wb.heap.size) (r0 : wb.cell? ⟨R, 0, none⟩ = some nv) (r1 : wb.cell? ⟨R, 1, none⟩ = some nv) (r2 : wb.cell? ⟨R, 2, none⟩ = some nv) (rf : ∀ j, wb.frozen? ⟨R, j, none⟩ = false)
    (oa : OwnI (R + 1) wb va zs) (ob : OwnI (R + 1) wb vb bs) (hd : ∀ b, va.ownBlock = some b → vb.ownBlock ≠ some b) :
    BldN R wb.heap.size (wb.heap.size + 1) va vb nv [] zs [] bs w (wb.alloc (.cells #[va, nv, vb] 38)) := by
  have hb : Below wb.heap.size wb (wb.alloc (.cells #[va, nv, vb] 38)) := (Below.refl _ _).alloc (Nat.le_refl _) _
  have ha := own_lt oa
  have hbb := own_lt ob
  exact ⟨b.alloc b.size _, hw, hR, by omega, by simp, below_cell hb r0, below_cell hb r1, below_cell hb r2, fun j => (hb.frozen (p := ⟨R, j, none⟩) hR).trans (rf j), by simp [go_sem], by simp [go_sem], by simp [go_sem], fun j => by simp [go_sem],
    own_later oa hb, fun k e => by have := ha k e; omega, own_later ob hb, fun k e => by have := hbb k e; omega, hd, (OwnSS.empty _ _).wide (by first | exact Nat.le_refl _ | simp) (Nat.le_refl _)⟩
theorem BldN.early {R G : Nat} {va vb : Value} {zs bs : List Int} {w wb : World} (b : Below w.heap.size w wb) (hw : w.heap.size ≤ R) (hR : R < G) (hG : G < wb.heap.size) (r0 : wb.cell? ⟨R, 0, none⟩ = some nv) (r1 : wb.cell? ⟨R, 1, none⟩ = some nv) (r2 : wb.cell? ⟨R, 2, none⟩ = some nv) (rf : ∀ j, wb.frozen? ⟨R, j, none⟩ = false)
    (g0 : wb.cell? ⟨G, 0, none⟩ = some nv) (g1 : wb.cell? ⟨G, 1, none⟩ = some nv) (g2 : wb.cell? ⟨G, 2, none⟩ = some nv) (gf : ∀ j, wb.frozen? ⟨G, j, none⟩ = false)
    (oa : OwnI (R + 1) wb va zs) (na : ∀ b, va.ownBlock = some b → G ≠ b) (ob : OwnI (R + 1) wb vb bs) (nb : ∀ b, vb.ownBlock = some b → G ≠ b) (hd : ∀ b, va.ownBlock = some b → vb.ownBlock ≠ some b) :
    BldN R G wb.heap.size va vb nv [] zs [] bs w (((wb.setCell ⟨G, 0, none⟩ va).setCell ⟨G, 1, none⟩ nv).setCell ⟨G, 2, none⟩ vb) := by
  have ha := own_lt oa
  have hbb := own_lt ob
  have kR : ∀ {j v}, wb.cell? ⟨R, j, none⟩ = some v → (((wb.setCell ⟨G, 0, none⟩ va).setCell ⟨G, 1, none⟩ nv).setCell ⟨G, 2, none⟩ vb).cell? ⟨R, j, none⟩ = some v := fun {j v} e => by
    rw [World.cell?_setCell_other _ _ _ _ (by first | omega | (simp; done) | (simp; omega)), World.cell?_setCell_other _ _ _ _ (by first | omega | (simp; done) | (simp; omega)), World.cell?_setCell_other _ _ _ _ (by first | omega | (simp; done) | (simp; omega))]; exact e
  refine ⟨((b.setCell (show w.heap.size ≤ G by omega) _).setCell (show w.heap.size ≤ G by omega) _).setCell (show w.heap.size ≤ G by omega) _, hw, hR, hG, by simp, kR r0, kR r1, kR r2, fun j => by rw [World.frozen?_setCell, World.frozen?_setCell, World.frozen?_setCell]; exact rf j, ?_, ?_, ?_, fun j => by rw [World.frozen?_setCell, World.frozen?_setCell, World.frozen?_setCell]; exact gf j,
    own_set (own_set (own_set oa na _) na _) na _, fun k e => ⟨ha k e, na k e⟩, own_set (own_set (own_set ob nb _) nb _) nb _, fun k e => ⟨hbb k e, nb k e⟩, hd, ?_⟩
  · rw [World.cell?_setCell_other _ _ _ _ (by simp), World.cell?_setCell_other _ _ _ _ (by simp)]; exact World.cell?_setCell_same _ _ _ g0
  · rw [World.cell?_setCell_other _ _ _ _ (by simp)]; exact World.cell?_setCell_same _ _ _ (by rw [World.cell?_setCell_other _ _ _ _ (by simp)]; exact g1)
  · exact World.cell?_setCell_same _ _ _ (by rw [World.cell?_setCell_other _ _ _ _ (by simp), World.cell?_setCell_other _ _ _ _ (by simp)]; exact g2)
  · have := OwnSS.empty wb.heap.size (((wb.setCell ⟨G, 0, none⟩ va).setCell ⟨G, 1, none⟩ nv).setCell ⟨G, 2, none⟩ vb)
    exact this

theorem three_keep {w : World} {b o R : Nat} {v x0 x1 x2 : Value} (h : w.cell? ⟨b, o, none⟩ = some v) (hne : b ≠ R) : (((w.setCell ⟨R, 0, none⟩ x0).setCell ⟨R, 1, none⟩ x1).setCell ⟨R, 2, none⟩ x2).cell? ⟨b, o, none⟩ = some v := by
  have hn : ∀ j, (⟨R, j, none⟩ : Addr) ≠ ⟨b, o, none⟩ := fun j e => hne (by injection e with e1; exact e1.symm)
  rw [World.cell?_setCell_other _ _ _ _ (by first | exact hn 2 | exact (hn 2).symm), World.cell?_setCell_other _ _ _ _ (by first | exact hn 1 | exact (hn 1).symm), World.cell?_setCell_other _ _ _ _ (by first | exact hn 0 | exact (hn 0).symm)]; exact h

end Go.Proofs.YtmeeibcbhjifbaaGreat

/- A model of its own: the reference's. -/
namespace Go.Proofs.YtmeeibcbhjifbaaGreat
set_option linter.unusedVariables false
open Go.RowKit Go.Proofs.Bell Go.BigFrame

end Go.Proofs.YtmeeibcbhjifbaaGreat

