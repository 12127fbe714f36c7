/- A model that is built row by row, its box anywhere among the rows that were made ahead. -/
import Derived.Test.YtmeeibcbhjifbaaSSApp
import Derived.Deep.RegionLaw
namespace Go.Proofs.Ytmeeibcbhjifbaa
set_option linter.unusedVariables false
open Go.RowKit Go.Proofs.Bell Go.BigFrame

/-- R: the result's box; G: the model's; below B: zones and base; from B on: the weights -/
structure BldN (R G B : Nat) (zv bv wv : Value) (us : List Value) (zs : List Int) (ws : List (List Int)) (bs : List Int) (w wr : World) : Prop where
  below : Below w.heap.size w wr
  rw : w.heap.size ≤ R
  rg : R < G
  gb : G < B
  gs : B ≤ wr.heap.size
  r0 : wr.cell? ⟨R, 0, none⟩ = some nv
  r1 : wr.cell? ⟨R, 1, none⟩ = some nv
  r2 : wr.cell? ⟨R, 2, none⟩ = some nv
  rf : ∀ j, wr.frozen? ⟨R, j, none⟩ = false
  g0 : wr.cell? ⟨G, 0, none⟩ = some zv
  g1 : wr.cell? ⟨G, 1, none⟩ = some wv
  g2 : wr.cell? ⟨G, 2, none⟩ = some bv
  gf : ∀ j, wr.frozen? ⟨G, j, none⟩ = false
  z : OwnI (R + 1) wr zv zs
  zh : ∀ b, zv.ownBlock = some b → b < B ∧ G ≠ b
  b : OwnI (R + 1) wr bv bs
  bh : ∀ b, bv.ownBlock = some b → b < B ∧ G ≠ b
  zb : ∀ b, zv.ownBlock = some b → bv.ownBlock ≠ some b
  s : OwnSS B wr.heap.size wr wv us ws

theorem BldN.later {R G B : Nat} {zv bv wv : Value} {us : List Value} {zs : List Int} {ws : List (List Int)} {bs : List Int} {w wr w1 : World} (h : BldN R G B zv bv wv us zs ws bs w wr) (hb : Below wr.heap.size wr w1) : BldN R G B zv bv wv us zs ws bs w w1 := by
  have h1 := h.rg; have h2 := h.gb; have h3 := h.gs
  exact ⟨h.below.trans (hb.mono h.below.size), h.rw, h.rg, h.gb, Nat.le_trans h.gs hb.size, below_cell hb h.r0, below_cell hb h.r1, below_cell hb h.r2,
   fun j => (hb.frozen (p := ⟨R, j, none⟩) (show R < _ by omega)).trans (h.rf j), below_cell hb h.g0, below_cell hb h.g1, below_cell hb h.g2, fun j => (hb.frozen (p := ⟨G, j, none⟩) (show G < _ by omega)).trans (h.gf j),
   own_later h.z hb, h.zh, own_later h.b hb, h.bh, h.zb, h.s.up hb hb.size⟩

theorem BldN.next {R G B : Nat} {zv bv wv v' u : Value} {us : List Value} {zs row : List Int} {ws : List (List Int)} {bs : List Int} {w wr wi w' : World} (h : BldN R G B zv bv wv us zs ws bs w wr) (hb : Below wr.heap.size wr wi)
    (hu : OwnI wr.heap.size wi u row) (ho : w'.ownsRow B 38 1 v' (ws.length + 1) (us ++ [u])) (hq : Only (fun b => wv.ownBlock = some b) wi w') (hat : ∀ b, v'.ownBlock = some b → wv.ownBlock = some b ∨ wi.heap.size ≤ b) :
    BldN R G B zv bv v' (us ++ [u]) zs (ws ++ [row]) bs w (w'.setCell ⟨G, 1, none⟩ v') := by
  have h1 := h.later hb
  have hsz := hq.size
  have hw0 := h.gs
  have hw1 := hb.size
  have hrg := h.rg
  have hrw := h.rw
  have hgb := h.gb
  have hs : OwnSS B wr.heap.size wi wv us ws := h.s.later hb
  have hn := hs.snoc (row := row) hb.size hw0 hu ho hq hat
  have nlo : ∀ b, wv.ownBlock = some b → B ≤ b := fun b e => own_lo h.s.row b e
  have nG : ¬ wv.ownBlock = some G := fun e => by have := nlo _ e; omega
  have nR : ¬ wv.ownBlock = some R := fun e => by have := nlo _ e; omega
  have hz := own_only h1.z hq (fun b e hS => by have := (h.zh b e).1; have := nlo b hS; omega)
  have hbb := own_only h1.b hq (fun b e hS => by have := (h.bh b e).1; have := nlo b hS; omega)
  have hbe := Only.below h1.below hq h1.below.size (fun b e => by have := nlo b e; omega)
  have hs2 : OwnSS B (w'.setCell ⟨G, 1, none⟩ v').heap.size (w'.setCell ⟨G, 1, none⟩ v') v' (us ++ [u]) (ws ++ [row]) := by
    have := hn.set (a := ⟨G, 1, none⟩) (show G < B from hgb) v'
    rwa [show (w'.setCell ⟨G, 1, none⟩ v').heap.size = w'.heap.size by simp]
  exact ⟨hbe.setCell (show w.heap.size ≤ G by omega) _, hrw, hrg, hgb, by simp; omega,
    by rw [World.cell?_setCell_other _ _ _ _ (by simp; try omega)]; exact cell_only hq h1.r0 nR, by rw [World.cell?_setCell_other _ _ _ _ (by simp; try omega)]; exact cell_only hq h1.r1 nR, by rw [World.cell?_setCell_other _ _ _ _ (by simp; try omega)]; exact cell_only hq h1.r2 nR,
    fun j => by rw [World.frozen?_setCell]; exact (frozen_only hq (show R < _ by omega) nR).trans (h1.rf j),
    by rw [World.cell?_setCell_other _ _ _ _ (by simp)]; exact cell_only hq h1.g0 nG, World.cell?_setCell_same _ _ _ (cell_only hq h1.g1 nG), by rw [World.cell?_setCell_other _ _ _ _ (by simp)]; exact cell_only hq h1.g2 nG,
    fun j => by rw [World.frozen?_setCell]; exact (frozen_only hq (show G < _ by omega) nG).trans (h1.gf j),
    own_set hz (fun k e => (h.zh k e).2) _, h.zh, own_set hbb (fun k e => (h.bh k e).2) _, h.bh, h.zb, hs2⟩

/-- a number of the base is written -/
theorem BldN.putB {R G B g n cap : Nat} {zv wv : Value} {us : List Value} {zs : List Int} {ws : List (List Int)} {bs : List Int} {w wr : World} (h : BldN R G B zv (.slice (some ⟨g, 0, none⟩) n cap) wv us zs ws bs w wr) (hn : n = bs.length) (j : Nat) (x : Int) :
    BldN R G B zv (.slice (some ⟨g, 0, none⟩) n cap) wv us zs ws (bs.set j x) w (wr.setCell ⟨g, j, none⟩ (.int .i64 x)) := by
  subst hn
  have hrg := h.rg; have hrw := h.rw; have hgb := h.gb
  have hg := own_lo h.b g rfl
  have hgB := h.bh g rfl
  have nR : R ≠ g := by omega
  have e : ints (bs.set j x) = (ints bs).set j (.int .i64 x) := by unfold ints; rw [List.map_set]
  refine ⟨h.below.setCell (show w.heap.size ≤ g by omega) _, hrw, hrg, hgb, by simpa using h.gs, ?_, ?_, ?_, fun k => by rw [World.frozen?_setCell]; exact h.rf k, ?_, ?_, ?_, fun k => by rw [World.frozen?_setCell]; exact h.gf k,
    own_set h.z (fun k hk e => h.zb k hk (by rw [show k = g from e.symm]; rfl)) _, h.zh, ?_, h.bh, h.zb, ?_⟩
  · rw [World.cell?_setCell_other _ _ _ _ (by simp; try omega)]; exact h.r0
  · rw [World.cell?_setCell_other _ _ _ _ (by simp; try omega)]; exact h.r1
  · rw [World.cell?_setCell_other _ _ _ _ (by simp; try omega)]; exact h.r2
  · rw [World.cell?_setCell_other _ _ _ _ (by simp [hgB.2.symm])]; exact h.g0
  · rw [World.cell?_setCell_other _ _ _ _ (by simp [hgB.2.symm])]; exact h.g1
  · rw [World.cell?_setCell_other _ _ _ _ (by simp [hgB.2.symm])]; exact h.g2
  · have := (World.ownsRow.stored h.b j (.int .i64 x)).1
    unfold OwnI
    rw [List.length_set, e]
    exact this
  · have := h.s.set (a := ⟨g, j, none⟩) (show g < B from hgB.1) (.int .i64 x)
    rwa [show (wr.setCell ⟨g, j, none⟩ (.int .i64 x)).heap.size = wr.heap.size by simp]

theorem BldN.own {R G B : Nat} {zv bv wv : Value} {us : List Value} {zs : List Int} {ws : List (List Int)} {bs : List Int} {w wr : World} (h : BldN R G B zv bv wv us zs ws bs w wr) : OwnM w.heap.size wr.heap.size wr zv wv bv us zs ws bs := by
  have hrw := h.rw
  have hrg := h.rg
  have hgb := h.gb
  have hgs := h.gs
  exact ⟨own_base h.z (by omega), own_lt h.z, h.s.wide (by omega) (Nat.le_refl _), own_base h.b (by omega), own_lt h.b, h.zb, fun b e e' => by have := (h.zh b e).1; have := own_lo h.s.row b e'; omega,
    fun k hk b e e' => by have := own_lo (h.s.own k hk) b e; have := (h.zh b e').1; omega, fun k hk b e e' => by have := own_lo (h.s.own k hk) b e; have := (h.bh b e').1; omega, fun b e e' => by have := (h.bh b e).1; have := own_lo h.s.row b e'; omega⟩
theorem BldN.ownR {R G B : Nat} {zv bv wv : Value} {us : List Value} {zs : List Int} {ws : List (List Int)} {bs : List Int} {w wr : World} (h : BldN R G B zv bv wv us zs ws bs w wr) (u0 u1 u2 : Value) :
    OwnM w.heap.size ((((wr.setCell ⟨R, 0, none⟩ u0).setCell ⟨R, 1, none⟩ u1).setCell ⟨R, 2, none⟩ u2)).heap.size (((wr.setCell ⟨R, 0, none⟩ u0).setCell ⟨R, 1, none⟩ u1).setCell ⟨R, 2, none⟩ u2) zv wv bv us zs ws bs := by
  have hrg := h.rg
  have hgb := h.gb
  have key : ∀ (w1 : World) (j : Nat) (u : Value), OwnM w.heap.size wr.heap.size w1 zv wv bv us zs ws bs → OwnM w.heap.size wr.heap.size (w1.setCell ⟨R, j, none⟩ u) zv wv bv us zs ws bs := fun w1 j u h1 =>
    h1.set3 (a := ⟨R, j, none⟩) (fun b e => by have := own_lo h.z b e; show R ≠ b; omega) (fun b e => by have := own_lo h.s.row b e; show R ≠ b; omega) (fun b e => by have := own_lo h.b b e; show R ≠ b; omega) (fun k hk b e => by have := own_lo (h.s.own k hk) b e; show R ≠ b; omega) u
  have := key _ 2 u2 (key _ 1 u1 (key _ 0 u0 h.own))
  simpa using this
theorem BldN.belowR {R G B : Nat} {zv bv wv : Value} {us : List Value} {zs : List Int} {ws : List (List Int)} {bs : List Int} {w wr : World} (h : BldN R G B zv bv wv us zs ws bs w wr) (u0 u1 u2 : Value) :
    Below w.heap.size w (((wr.setCell ⟨R, 0, none⟩ u0).setCell ⟨R, 1, none⟩ u1).setCell ⟨R, 2, none⟩ u2) :=
  ((h.below.setCell h.rw _).setCell h.rw _).setCell h.rw _

/-- .. and one list appended, as a step of a region that draws -/
theorem sapp_SS {ops : Array Oper} {o : Oper} {a : Act} {K : Act → World → Prop} {Q : Exit → Act → World → Prop} {E : Prop} (s x : Operand) (W : World) (base : Nat) (v : Value) (n : Nat) (us : List Value) (ao : Option Addr) (m cap g : Nat)
    (ho : o.op = .call { callee := .builtin .append, args := #[s, x], argTypes := #[39, 39] }) (hgd : o.guard = none) (hg : W.heap.size = g)
    (hs : a.eval s = v) (hx : a.eval x = .slice (some ⟨g, 0, none⟩) 1 1) (hown : W.ownsRow base 38 1 v n us) (hn : n ≤ 1000000) (hbase : base ≤ W.heap.size)
    (h : ∀ v' w', w'.ownsRow base 38 1 v' (n + 1) (us ++ [.slice ao m cap]) → Only (fun b => v.ownBlock = some b) W w' → (∀ b, v'.ownBlock = some b → v.ownBlock = some b ∨ W.heap.size ≤ b) → K (a.put o.dst v') w') :
    if Region.wanted o (yielded ops a.tmps) = true then Oper.wp Try.prog o a (W.alloc (.cells #[.slice ao m cap] 38)) K Q else E := by
  have hw : Region.wanted o (yielded ops a.tmps) = true := by simp [Region.wanted, hgd]
  rw [if_pos hw]
  subst hg
  obtain ⟨i0, hi, hz0, hz1, hz2⟩ := info_parts info_SS
  obtain ⟨v', w', hr, h2, h3, h4, h5⟩ := run_append_own_at (P := Try.prog) (W.alloc (.cells #[.slice ao m cap] 38)) base 39 o.type 38 i0 _ 1 24 Try.underlying39 hi hz0 hz1 hz2 rfl (by decide) v n us (hown.alloc _) ⟨W.heap.size, 0, none⟩ 1 1 [.slice ao m cap] rfl (World.news_of_block (heap_alloc_new W _)) (fun u hu => by simp at hu; subst hu; rfl) (by unfold maxLen; omega) (by omega) (by simp; omega)
  unfold Oper.wp execOp
  simp only [ho, resolve, invoke, builtin, Sem.run_bind, Sem.run_pure, Result.andThen_ok, List.map_toArray, List.map_cons, List.map_nil, hs, hx, hr]
  refine h v' w' h2 ((Only.of_below ((Below.refl _ _).alloc (Nat.le_refl _) _)).trans (Only.of_grown h3)) (fun b hb => ?_)
  rcases h5 with e | e
  · left; rw [← e]; exact hb
  · right; rw [e] at hb; simp at hb; omega

end Go.Proofs.Ytmeeibcbhjifbaa
