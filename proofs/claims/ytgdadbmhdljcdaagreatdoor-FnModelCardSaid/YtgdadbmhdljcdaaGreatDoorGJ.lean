/- Several texts of the proofs in one: RngD. -/
import Derived.Test.YtgdadbmhdljcdaaGreatDoorWF
/- The draw of a ring. -/
namespace Go.Proofs.YtgdadbmhdljcdaaGreatDoor
set_option linter.unusedVariables false
open Go.RowKit Go.Proofs.Bell Go.BigFrame

structure RgSt (R B g A : Nat) (o i h : Int) (w wr : World) : Prop where
  only : Only (fun b => b = g) w wr
  gw : g < w.heap.size
  rw : w.heap.size ≤ R
  rb : R < B
  bs : B < wr.heap.size
  r0 : wr.cell? ⟨R, 0, none⟩ = some (.int .i64 0)
  r1 : wr.cell? ⟨R, 1, none⟩ = some (.int .i64 0)
  r2 : wr.cell? ⟨R, 2, none⟩ = some (.int .i64 0)
  rf : ∀ j, wr.frozen? ⟨R, j, none⟩ = false
  b0 : wr.cell? ⟨B, 0, none⟩ = some (.int .i64 o)
  b1 : wr.cell? ⟨B, 1, none⟩ = some (.int .i64 i)
  b2 : wr.cell? ⟨B, 2, none⟩ = some (.int .i64 h)
  bf : ∀ j, wr.frozen? ⟨B, j, none⟩ = false
  src : Src A g wr
theorem RgSt.go {R B g A A' : Nat} {o i h : Int} {w wr w1 : World} (s : RgSt R B g A o i h w wr) (hq : Only (fun b => b = g) wr w1) (hs : Src A' g w1) : RgSt R B g A' o i h w w1 := by
  have h1 := s.gw; have h2 := s.rw; have h3 := s.rb; have h4 := s.bs
  have nR : ∀ j, ¬ (⟨R, j, none⟩ : Addr).block = g := fun j => by show ¬ R = g; omega
  have nB : ∀ j, ¬ (⟨B, j, none⟩ : Addr).block = g := fun j => by show ¬ B = g; omega
  exact ⟨s.only.trans hq, h1, h2, h3, Nat.lt_of_lt_of_le h4 hq.size, cell_only hq s.r0 (nR 0), cell_only hq s.r1 (nR 1), cell_only hq s.r2 (nR 2), fun j => (frozen_only hq (show R < _ by omega) (nR j)).trans (s.rf j),
    cell_only hq s.b0 (nB 0), cell_only hq s.b1 (nB 1), cell_only hq s.b2 (nB 2), fun j => (frozen_only hq (show B < _ by omega) (nB j)).trans (s.bf j), hs⟩
theorem RgSt.later {R B g A : Nat} {o i h : Int} {w wr w1 : World} (s : RgSt R B g A o i h w wr) (hb : Below wr.heap.size wr w1) : RgSt R B g A o i h w w1 := s.go (Only.of_below hb) (s.src.later hb)
/-- a cell of the ring is written -/
theorem RgSt.set {R B g A : Nat} {o i h : Int} {w wr : World} (s : RgSt R B g A o i h w wr) (j : Nat) (x : Int) (hj : j < 3) : RgSt R B g A (if j = 0 then x else o) (if j = 1 then x else i) (if j = 2 then x else h) w (wr.setCell ⟨B, j, none⟩ (.int .i64 x)) := by
  have h1 := s.gw; have h2 := s.rw; have h3 := s.rb; have h4 := s.bs
  have hR : ∀ (k : Nat) (v : Value), wr.cell? ⟨R, k, none⟩ = some v → (wr.setCell ⟨B, j, none⟩ (.int .i64 x)).cell? ⟨R, k, none⟩ = some v := fun k v e => by
    rw [World.cell?_setCell_other _ _ _ _ (by simp; try omega)]; exact e
  have hB : ∀ (k : Nat) (z : Int), wr.cell? ⟨B, k, none⟩ = some (.int .i64 z) → (wr.setCell ⟨B, j, none⟩ (.int .i64 x)).cell? ⟨B, k, none⟩ = some (.int .i64 (if j = k then x else z)) := fun k z e => by
    by_cases hk : j = k
    · subst hk; rw [if_pos rfl]; exact World.cell?_setCell_same _ _ _ e
    · rw [if_neg hk, World.cell?_setCell_other _ _ _ _ (by simp; try omega)]; exact e
  exact ⟨⟨s.only.os, s.only.tape, s.only.output, by simpa using s.only.size, fun k hk hn => (Below.heap_setCell _ _ _ _ (by show k ≠ B; omega)).trans (s.only.block k hk hn)⟩, h1, h2, h3, by simpa using h4,
    hR _ _ s.r0, hR _ _ s.r1, hR _ _ s.r2, fun q => by rw [World.frozen?_setCell]; exact s.rf q, hB 0 o s.b0, hB 1 i s.b1, hB 2 h s.b2, fun q => by rw [World.frozen?_setCell]; exact s.bf q,
    s.src.keep ((Only.refl (fun b => b = B) wr).setCell (p := ⟨B, j, none⟩) rfl _) (fun b e => by omega)⟩
def RetRn (w : World) (g : Nat) (e : Ending) (w' : World) : Prop := ∃ o i h : Int, e = .returned (.agg #[.int .i64 o, .int .i64 i, .int .i64 h]) ∧ Only (fun b => b = g) w w'
theorem RgSt.fin {R B g A : Nat} {o i h : Int} {w wr : World} (s : RgSt R B g A o i h w wr) : RetRn w g (.returned (.agg #[.int .i64 o, .int .i64 i, .int .i64 h])) (((wr.setCell ⟨R, 0, none⟩ (.int .i64 o)).setCell ⟨R, 1, none⟩ (.int .i64 i)).setCell ⟨R, 2, none⟩ (.int .i64 h)) := by
  have h1 := s.gw; have h2 := s.rw; have h3 := s.rb; have h4 := s.bs
  have key : ∀ (wq : World) j v, Only (fun b => b = g) w wq → Only (fun b => b = g) w (wq.setCell ⟨R, j, none⟩ v) := fun wq j v a2 =>
    ⟨a2.os, a2.tape, a2.output, by simpa using a2.size, fun k hk hn => (Below.heap_setCell _ _ _ _ (by show k ≠ R; omega)).trans (a2.block k hk hn)⟩
  exact ⟨o, i, h, rfl, key _ _ _ (key _ _ _ (key _ _ _ s.only))⟩

theorem rd_three {w : World} {b : Nat} {a0 a1 a2 : Int} (hb : b < w.heap.size) (h0 : w.cell? ⟨b, 0, none⟩ = some (.int .i64 a0)) (h1 : w.cell? ⟨b, 1, none⟩ = some (.int .i64 a1)) (h2 : w.cell? ⟨b, 2, none⟩ = some (.int .i64 a2)) :
    Rd w (.slice (some ⟨b, 0, none⟩) 3 3) 3 (ints [a0, a1, a2]) := by
  refine ⟨by decide, .inr ⟨by decide, b, 0, 3, rfl, by decide, by decide, hb, fun j u hj => ?_⟩⟩
  match j, hj with
  | 0, hj => simp [ints] at hj; subst hj; simpa using h0
  | 1, hj => simp [ints] at hj; subst hj; simpa using h1
  | 2, hj => simp [ints] at hj; subst hj; simpa using h2
  | n + 3, hj => simp [ints] at hj
theorem among3_c (A g b : Nat) (a0 a1 a2 : Int) (w : World) (h : Src A g w) (hA : A ≤ 100000000000) (hne : b ≠ g) (h0 : w.cell? ⟨b, 0, none⟩ = some (.int .i64 a0)) (h1 : w.cell? ⟨b, 1, none⟩ = some (.int .i64 a1)) (h2 : w.cell? ⟨b, 2, none⟩ = some (.int .i64 a2)) :
    Calls Tryz.prog 82 #[.pointer (some ⟨g, 0, none⟩), .slice (some ⟨b, 0, none⟩) 3 3] w (RetOf [a0, a1, a2] (A + 2) g w) :=
  among_c A g _ [a0, a1, a2] w h hA (rd_three (World.block_lt_of_cell? _ _ h0) h0 h1 h2) (by simp) (by simp) (fun q e => by simp [Value.ownBlock] at e; omega)

end Go.Proofs.YtgdadbmhdljcdaaGreatDoor

