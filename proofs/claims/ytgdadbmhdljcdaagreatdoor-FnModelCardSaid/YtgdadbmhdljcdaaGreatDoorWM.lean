/- Several texts of the proofs in one: SSApp, BldN, Snd, CutR. -/
import Derived.Test.YtgdadbmhdljcdaaGreatDoorGC
import Derived.Test.YtgdadbmhdljcdaaGreatDoorGE
import Derived.Test.YtgdadbmhdljcdaaGreatDoorGF
import Derived.Test.YtgdadbmhdljcdaaGreatDoorVH
import Derived.Test.YtgdadbmhdljcdaaGreatDoorWK
import Derived.Deep.Cut
import Derived.Deep.CutRange
import Derived.Deep.DeepCutAuto
import Derived.Deep.RegionHeld3
import Derived.Deep.RegionLaw
import Derived.Maps.AppendAt
/- append of one list onto a list of lists of one's own; a model that is built row by row. -/
namespace Go.Proofs.YtgdadbmhdljcdaaGreatDoor
set_option linter.unusedVariables false
open Go.RowKit Go.Proofs.Bell Go.BigFrame

theorem app_SS {ops : Array Oper} {rest : List Oper} {o : Oper} {a : Act} {Q : Exit → Act → World → Prop} (s x : Operand) (W : World) (base : Nat) (v : Value) (n : Nat) (us : List Value) (ao : Option Addr) (m cap : Nat)
    (ho : o.op = .call { callee := .builtin .append, args := #[s, x], argTypes := #[43, 43] }) (hgd : o.guard = none)
    (hs : a.eval s = v) (hx : a.eval x = .slice (some ⟨W.heap.size, 0, none⟩) 1 1) (hown : W.ownsRow base 42 1 v n us) (hn : n ≤ 1000000) (hbase : base ≤ W.heap.size)
    (h : ∀ v' w', w'.ownsRow base 42 1 v' (n + 1) (us ++ [.slice ao m cap]) → Only (fun b => v.ownBlock = some b) W w' → (∀ b, v'.ownBlock = some b → v.ownBlock = some b ∨ W.heap.size ≤ b) → wpList Tryz.prog ops Q rest (a.put o.dst v') w') :
    wpList Tryz.prog ops Q (o :: rest) a (W.alloc (.cells #[.slice ao m cap] 42)) := by
  obtain ⟨i0, hi, hz0, hz1, hz2⟩ := info_parts info_SS
  refine wpList_append_own_at _ hgd s x 43 ho base 42 i0 _ 1 24 Tryz.underlying43 hi hz0 hz1 hz2 rfl (by decide) v n us hs (hown.alloc _) ⟨W.heap.size, 0, none⟩ 1 1 [.slice ao m cap] hx rfl (World.news_of_block (heap_alloc_new W _)) (fun u hu => by simp at hu; subst hu; rfl) (by unfold maxLen; omega) (by omega) (by simp; omega) ?_
  intro v' w' ho' hg _ hat
  refine h v' w' ho' ((Only.of_below ((Below.refl _ _).alloc (Nat.le_refl _) _)).trans (Only.of_grown hg)) (fun b hb => ?_)
  rcases hat with e | e
  · left; rw [← e]; exact hb
  · right; rw [e] at hb; simp at hb; omega

theorem OwnSS.snoc {lo hi : Nat} {W w' : World} {v v' u : Value} {us : List Value} {ws : List (List Int)} {row : List Int} (h : OwnSS lo hi W v us ws) (hhi : hi ≤ W.heap.size) (hlh : lo ≤ hi)
    (hu : OwnI hi W u row) (ho : w'.ownsRow lo 42 1 v' (ws.length + 1) (us ++ [u])) (hq : Only (fun b => v.ownBlock = some b) W w') (hat : ∀ b, v'.ownBlock = some b → v.ownBlock = some b ∨ W.heap.size ≤ b) :
    OwnSS lo w'.heap.size w' v' (us ++ [u]) (ws ++ [row]) := by
  have hsz := hq.size
  have hl := h.len
  have gl : ∀ j, j < ws.length → (us ++ [u]).getD j nv = us.getD j nv := fun j hj => by simp [List.getD, List.getElem?_append_left (show j < us.length by omega)]
  have gr : (us ++ [u]).getD ws.length nv = u := by rw [← hl]; simp [List.getD]
  have wl : ∀ j, j < ws.length → (ws ++ [row]).getD j [] = ws.getD j [] := fun j hj => by simp [List.getD, List.getElem?_append_left hj]
  have wr : (ws ++ [row]).getD ws.length [] = row := by simp [List.getD]
  have hown : ∀ k, k < (ws ++ [row]).length → OwnI lo w' ((us ++ [u]).getD k nv) ((ws ++ [row]).getD k []) := fun k hk => by
    simp only [List.length_append, List.length_cons, List.length_nil] at hk
    rcases Nat.lt_or_ge k ws.length with h1 | h1
    · rw [gl k h1, wl k h1]; exact own_only (h.own k h1) hq (fun b hb hS => h.cd k h1 b hb hS)
    · obtain rfl : k = ws.length := by omega
      rw [gr, wr]
      exact own_base (own_only hu hq (fun b hb hS => by have := own_lo hu b hb; have := h.rowh b hS; omega)) hlh
  refine ⟨by simp [hl], by simpa using ho, own_lt ho, hown, fun k hk => own_lt (hown k hk), fun j k hj hk b hb => ?_, fun k hk b hb hv => ?_⟩
  · simp only [List.length_append, List.length_cons, List.length_nil] at hk
    rw [gl j (by omega)]
    rcases Nat.lt_or_ge k ws.length with h1 | h1
    · rw [gl k h1] at hb; exact h.dis j k hj h1 b hb
    · obtain rfl : k = ws.length := by omega
      rw [gr] at hb
      intro e
      have h2 := own_lo hu b hb
      have h3 := h.top j hj b e
      omega
  · simp only [List.length_append, List.length_cons, List.length_nil] at hk
    rcases Nat.lt_or_ge k ws.length with h1 | h1
    · rw [gl k h1] at hb
      rcases hat b hv with e | e
      · exact h.cd k h1 b hb e
      · have := h.top k h1 b hb; omega
    · obtain rfl : k = ws.length := by omega
      rw [gr] at hb
      have h2 := own_lo hu b hb
      have h3 := own_lt hu b hb
      rcases hat b hv with e | e
      · have := h.rowh b e; omega
      · omega

theorem OwnSS.empty (lo : Nat) (w : World) : OwnSS lo w.heap.size w nv [] [] :=
  ⟨rfl, World.ownsRow_nil _ _ _ _, fun b h => (by cases h), fun k hk => absurd hk (by simp), fun k hk => absurd hk (by simp), fun j k _ hk => absurd hk (by simp), fun k hk => absurd hk (by simp)⟩
theorem OwnSS.up {lo hi : Nat} {w w' : World} {v : Value} {us : List Value} {ws : List (List Int)} (h : OwnSS lo hi w v us ws) (hb : Below w.heap.size w w') (hh : hi ≤ w'.heap.size) : OwnSS lo w'.heap.size w' v us ws := (h.later hb).wide (Nat.le_refl _) hh

/-- a model that is built in the block G; the result's block is R; zones and base lie between them, the weights behind -/
structure BldM (R G : Nat) (zv bv wv : Value) (us : List Value) (zs : List Int) (ws : List (List Int)) (bs : List Int) (w wr : World) : Prop where
  below : Below w.heap.size w wr
  rw : w.heap.size ≤ R
  rg : R < G
  gs : G < wr.heap.size
  r0 : wr.cell? ⟨R, 0, none⟩ = some nv
  r1 : wr.cell? ⟨R, 1, none⟩ = some nv
  r2 : wr.cell? ⟨R, 2, none⟩ = some nv
  rf : ∀ j, wr.frozen? ⟨R, j, none⟩ = false
  g0 : wr.cell? ⟨G, 0, none⟩ = some zv
  g1 : wr.cell? ⟨G, 1, none⟩ = some wv
  g2 : wr.cell? ⟨G, 2, none⟩ = some bv
  gf : ∀ j, wr.frozen? ⟨G, j, none⟩ = false
  z : OwnI (R + 1) wr zv zs
  zh : ∀ b, zv.ownBlock = some b → b < G
  b : OwnI (R + 1) wr bv bs
  bh : ∀ b, bv.ownBlock = some b → b < G
  zb : ∀ b, zv.ownBlock = some b → bv.ownBlock ≠ some b
  s : OwnSS (G + 1) wr.heap.size wr wv us ws

theorem BldM.later {R G : Nat} {zv bv wv : Value} {us : List Value} {zs : List Int} {ws : List (List Int)} {bs : List Int} {w wr w1 : World} (h : BldM R G zv bv wv us zs ws bs w wr) (hb : Below wr.heap.size wr w1) : BldM R G zv bv wv us zs ws bs w w1 :=
  ⟨h.below.trans (hb.mono h.below.size), h.rw, h.rg, Nat.lt_of_lt_of_le h.gs hb.size, below_cell hb h.r0, below_cell hb h.r1, below_cell hb h.r2,
   fun j => (hb.frozen (p := ⟨R, j, none⟩) (Nat.lt_trans h.rg h.gs)).trans (h.rf j), below_cell hb h.g0, below_cell hb h.g1, below_cell hb h.g2, fun j => (hb.frozen (p := ⟨G, j, none⟩) h.gs).trans (h.gf j),
   own_later h.z hb, h.zh, own_later h.b hb, h.bh, h.zb, h.s.up hb hb.size⟩

theorem BldM.next {R G : Nat} {zv bv wv v' u : Value} {us : List Value} {zs row : List Int} {ws : List (List Int)} {bs : List Int} {w wr wi w' : World} (h : BldM R G zv bv wv us zs ws bs w wr) (hb : Below wr.heap.size wr wi)
    (hu : OwnI wr.heap.size wi u row) (ho : w'.ownsRow (G + 1) 42 1 v' (ws.length + 1) (us ++ [u])) (hq : Only (fun b => wv.ownBlock = some b) wi w') (hat : ∀ b, v'.ownBlock = some b → wv.ownBlock = some b ∨ wi.heap.size ≤ b) :
    BldM R G zv bv v' (us ++ [u]) zs (ws ++ [row]) bs w (w'.setCell ⟨G, 1, none⟩ v') := by
  have h1 := h.later hb
  have hsz := hq.size
  have hw0 := h.gs
  have hw1 := hb.size
  have hrg := h.rg
  have hrw := h.rw
  have hs : OwnSS (G + 1) wr.heap.size wi wv us ws := h.s.later hb
  have hn := hs.snoc (row := row) hb.size hw0 hu ho hq hat
  have nG : ¬ wv.ownBlock = some G := fun e => by have := own_lo h.s.row _ e; omega
  have nR : ¬ wv.ownBlock = some R := fun e => by have := own_lo h.s.row _ e; omega
  have nlo : ∀ b, wv.ownBlock = some b → G + 1 ≤ b := fun b e => own_lo h.s.row b e
  have hz := own_only h1.z hq (fun b e hS => by have := h.zh b e; have := nlo b hS; omega)
  have hbb := own_only h1.b hq (fun b e hS => by have := h.bh b e; have := nlo b hS; omega)
  have hbe := Only.below h1.below hq h1.below.size (fun b e => by have := nlo b e; omega)
  have hs2 : OwnSS (G + 1) (w'.setCell ⟨G, 1, none⟩ v').heap.size (w'.setCell ⟨G, 1, none⟩ v') v' (us ++ [u]) (ws ++ [row]) := by
    have := hn.set (a := ⟨G, 1, none⟩) (Nat.lt_succ_self G) v'
    rwa [show (w'.setCell ⟨G, 1, none⟩ v').heap.size = w'.heap.size by simp]
  exact ⟨hbe.setCell (show w.heap.size ≤ G by omega) _, hrw, hrg, by simp; omega,
    by rw [World.cell?_setCell_other _ _ _ _ (by simp; try omega)]; exact cell_only hq h1.r0 nR, by rw [World.cell?_setCell_other _ _ _ _ (by simp; try omega)]; exact cell_only hq h1.r1 nR, by rw [World.cell?_setCell_other _ _ _ _ (by simp; try omega)]; exact cell_only hq h1.r2 nR,
    fun j => by rw [World.frozen?_setCell]; exact (frozen_only hq (show R < _ by omega) nR).trans (h1.rf j),
    by rw [World.cell?_setCell_other _ _ _ _ (by simp)]; exact cell_only hq h1.g0 nG, World.cell?_setCell_same _ _ _ (cell_only hq h1.g1 nG), by rw [World.cell?_setCell_other _ _ _ _ (by simp)]; exact cell_only hq h1.g2 nG,
    fun j => by rw [World.frozen?_setCell]; exact (frozen_only hq (show G < _ by omega) nG).trans (h1.gf j),
    own_set hz (fun k e => by have := h.zh k e; simp; omega) _, h.zh, own_set hbb (fun k e => by have := h.bh k e; simp; omega) _, h.bh, h.zb, hs2⟩

theorem BldM.own {R G : Nat} {zv bv wv : Value} {us : List Value} {zs : List Int} {ws : List (List Int)} {bs : List Int} {w wr : World} (h : BldM R G zv bv wv us zs ws bs w wr) : OwnM w.heap.size wr.heap.size wr zv wv bv us zs ws bs := by
  have hrw := h.rw
  have hrg := h.rg
  have hgs := h.gs
  exact ⟨own_base h.z (by omega), own_lt h.z, h.s.wide (by omega) (Nat.le_refl _), own_base h.b (by omega), own_lt h.b, h.zb, fun b e e' => by have := h.zh b e; have := own_lo h.s.row b e'; omega,
    fun k hk b e e' => by have := own_lo (h.s.own k hk) b e; have := h.zh b e'; omega, fun k hk b e e' => by have := own_lo (h.s.own k hk) b e; have := h.bh b e'; omega, fun b e e' => by have := h.bh b e; have := own_lo h.s.row b e'; omega⟩

def RetM2 (zs : List Int) (ws : List (List Int)) (bs : List Int) (code : Value) (w : World) (e : Ending) (w' : World) : Prop :=
  ∃ zv wv bv us, e = .returned (.tuple #[.agg #[zv, wv, bv], code]) ∧ OwnM w.heap.size w'.heap.size w' zv wv bv us zs ws bs ∧ Below w.heap.size w w'
theorem RetM2.nil {w w' : World} {c : Value} (h : Below w.heap.size w w') : RetM2 [] [] [] c w (.returned (.tuple #[.agg #[.slice none 0 0, .slice none 0 0, .slice none 0 0], c])) w' :=
  ⟨_, _, _, [], rfl, ⟨World.ownsRow_nil _ _ _ _, fun b e => (by cases e), ⟨rfl, World.ownsRow_nil _ _ _ _, fun b h => (by cases h), fun k hk => absurd hk (by simp), fun k hk => absurd hk (by simp), fun j k _ hk => absurd hk (by simp), fun k hk => absurd hk (by simp)⟩, World.ownsRow_nil _ _ _ _, fun b e => (by cases e), fun b e => (by cases e), fun b e => (by cases e), fun k hk => absurd hk (by simp), fun k hk => absurd hk (by simp), fun b e => (by cases e)⟩, h⟩
theorem OwnM.set3 {lo hi : Nat} {w : World} {zv wv bv : Value} {us : List Value} {zs : List Int} {ws : List (List Int)} {bs : List Int} (h : OwnM lo hi w zv wv bv us zs ws bs) {a : Addr} (hz : ∀ b, zv.ownBlock = some b → a.block ≠ b) (hw : ∀ b, wv.ownBlock = some b → a.block ≠ b) (hb : ∀ b, bv.ownBlock = some b → a.block ≠ b) (hu : ∀ k, k < ws.length → ∀ b, (us.getD k nv).ownBlock = some b → a.block ≠ b) (u : Value) : OwnM lo hi (w.setCell a u) zv wv bv us zs ws bs :=
  ⟨own_set h.z hz u, h.zh, ⟨h.s.len, own_set h.s.row hw u, h.s.rowh, fun k hk => own_set (h.s.own k hk) (hu k hk) u, h.s.top, h.s.dis, h.s.cd⟩, own_set h.b hb u, h.bh, h.zb, h.zc, h.zu, h.bu, h.bc⟩
theorem BldM.ownR {R G : Nat} {zv bv wv : Value} {us : List Value} {zs : List Int} {ws : List (List Int)} {bs : List Int} {w wr : World} (h : BldM R G zv bv wv us zs ws bs w wr) (u0 u1 u2 : Value) :
    OwnM w.heap.size ((((wr.setCell ⟨R, 0, none⟩ u0).setCell ⟨R, 1, none⟩ u1).setCell ⟨R, 2, none⟩ u2)).heap.size (((wr.setCell ⟨R, 0, none⟩ u0).setCell ⟨R, 1, none⟩ u1).setCell ⟨R, 2, none⟩ u2) zv wv bv us zs ws bs := by
  have hrg := h.rg
  have key : ∀ (w1 : World) (j : Nat) (u : Value), OwnM w.heap.size wr.heap.size w1 zv wv bv us zs ws bs → OwnM w.heap.size wr.heap.size (w1.setCell ⟨R, j, none⟩ u) zv wv bv us zs ws bs := fun w1 j u h1 =>
    h1.set3 (a := ⟨R, j, none⟩) (fun b e => by have := own_lo h.z b e; show R ≠ b; omega) (fun b e => by have := own_lo h.s.row b e; show R ≠ b; omega) (fun b e => by have := own_lo h.b b e; show R ≠ b; omega) (fun k hk b e => by have := own_lo (h.s.own k hk) b e; show R ≠ b; omega) u
  have := key _ 2 u2 (key _ 1 u1 (key _ 0 u0 h.own))
  simpa using this
theorem BldM.belowR {R G : Nat} {zv bv wv : Value} {us : List Value} {zs : List Int} {ws : List (List Int)} {bs : List Int} {w wr : World} (h : BldM R G zv bv wv us zs ws bs w wr) (u0 u1 u2 : Value) :
    Below w.heap.size w (((wr.setCell ⟨R, 0, none⟩ u0).setCell ⟨R, 1, none⟩ u1).setCell ⟨R, 2, none⟩ u2) :=
  ((h.below.setCell h.rw _).setCell h.rw _).setCell h.rw _

end Go.Proofs.YtgdadbmhdljcdaaGreatDoor

/- A model that is built row by row, its box anywhere among the rows that were made ahead. -/
namespace Go.Proofs.YtgdadbmhdljcdaaGreatDoor
set_option linter.unusedVariables false
open Go.RowKit Go.Proofs.Bell Go.BigFrame

/-- R: the result's box; G: the model's; below B: zones and base; from B on: the weights -/
structure BldN (R G B : Nat) (zv bv wv : Value) (us : List Value) (zs : List Int) (ws : List (List Int)) (bs : List Int) (w wr : World) : Prop where
  below : Below w.heap.size w wr
  rw : w.heap.size ≤ R
  rg : R < G
  gb : G < B
  gs : B ≤ wr.heap.size
  r0 : wr.cell? ⟨R, 0, none⟩ = some nv
  r1 : wr.cell? ⟨R, 1, none⟩ = some nv
  r2 : wr.cell? ⟨R, 2, none⟩ = some nv
  rf : ∀ j, wr.frozen? ⟨R, j, none⟩ = false
  g0 : wr.cell? ⟨G, 0, none⟩ = some zv
  g1 : wr.cell? ⟨G, 1, none⟩ = some wv
  g2 : wr.cell? ⟨G, 2, none⟩ = some bv
  gf : ∀ j, wr.frozen? ⟨G, j, none⟩ = false
  z : OwnI (R + 1) wr zv zs
  zh : ∀ b, zv.ownBlock = some b → b < B ∧ G ≠ b
  b : OwnI (R + 1) wr bv bs
  bh : ∀ b, bv.ownBlock = some b → b < B ∧ G ≠ b
  zb : ∀ b, zv.ownBlock = some b → bv.ownBlock ≠ some b
  s : OwnSS B wr.heap.size wr wv us ws

theorem BldN.later {R G B : Nat} {zv bv wv : Value} {us : List Value} {zs : List Int} {ws : List (List Int)} {bs : List Int} {w wr w1 : World} (h : BldN R G B zv bv wv us zs ws bs w wr) (hb : Below wr.heap.size wr w1) : BldN R G B zv bv wv us zs ws bs w w1 := by
  have h1 := h.rg; have h2 := h.gb; have h3 := h.gs
  exact ⟨h.below.trans (hb.mono h.below.size), h.rw, h.rg, h.gb, Nat.le_trans h.gs hb.size, below_cell hb h.r0, below_cell hb h.r1, below_cell hb h.r2,
   fun j => (hb.frozen (p := ⟨R, j, none⟩) (show R < _ by omega)).trans (h.rf j), below_cell hb h.g0, below_cell hb h.g1, below_cell hb h.g2, fun j => (hb.frozen (p := ⟨G, j, none⟩) (show G < _ by omega)).trans (h.gf j),
   own_later h.z hb, h.zh, own_later h.b hb, h.bh, h.zb, h.s.up hb hb.size⟩

theorem BldN.next {R G B : Nat} {zv bv wv v' u : Value} {us : List Value} {zs row : List Int} {ws : List (List Int)} {bs : List Int} {w wr wi w' : World} (h : BldN R G B zv bv wv us zs ws bs w wr) (hb : Below wr.heap.size wr wi)
    (hu : OwnI wr.heap.size wi u row) (ho : w'.ownsRow B 42 1 v' (ws.length + 1) (us ++ [u])) (hq : Only (fun b => wv.ownBlock = some b) wi w') (hat : ∀ b, v'.ownBlock = some b → wv.ownBlock = some b ∨ wi.heap.size ≤ b) :
    BldN R G B zv bv v' (us ++ [u]) zs (ws ++ [row]) bs w (w'.setCell ⟨G, 1, none⟩ v') := by
  have h1 := h.later hb
  have hsz := hq.size
  have hw0 := h.gs
  have hw1 := hb.size
  have hrg := h.rg
  have hrw := h.rw
  have hgb := h.gb
  have hs : OwnSS B wr.heap.size wi wv us ws := h.s.later hb
  have hn := hs.snoc (row := row) hb.size hw0 hu ho hq hat
  have nlo : ∀ b, wv.ownBlock = some b → B ≤ b := fun b e => own_lo h.s.row b e
  have nG : ¬ wv.ownBlock = some G := fun e => by have := nlo _ e; omega
  have nR : ¬ wv.ownBlock = some R := fun e => by have := nlo _ e; omega
  have hz := own_only h1.z hq (fun b e hS => by have := (h.zh b e).1; have := nlo b hS; omega)
  have hbb := own_only h1.b hq (fun b e hS => by have := (h.bh b e).1; have := nlo b hS; omega)
  have hbe := Only.below h1.below hq h1.below.size (fun b e => by have := nlo b e; omega)
  have hs2 : OwnSS B (w'.setCell ⟨G, 1, none⟩ v').heap.size (w'.setCell ⟨G, 1, none⟩ v') v' (us ++ [u]) (ws ++ [row]) := by
    have := hn.set (a := ⟨G, 1, none⟩) (show G < B from hgb) v'
    rwa [show (w'.setCell ⟨G, 1, none⟩ v').heap.size = w'.heap.size by simp]
  exact ⟨hbe.setCell (show w.heap.size ≤ G by omega) _, hrw, hrg, hgb, by simp; omega,
    by rw [World.cell?_setCell_other _ _ _ _ (by simp; try omega)]; exact cell_only hq h1.r0 nR, by rw [World.cell?_setCell_other _ _ _ _ (by simp; try omega)]; exact cell_only hq h1.r1 nR, by rw [World.cell?_setCell_other _ _ _ _ (by simp; try omega)]; exact cell_only hq h1.r2 nR,
    fun j => by rw [World.frozen?_setCell]; exact (frozen_only hq (show R < _ by omega) nR).trans (h1.rf j),
    by rw [World.cell?_setCell_other _ _ _ _ (by simp)]; exact cell_only hq h1.g0 nG, World.cell?_setCell_same _ _ _ (cell_only hq h1.g1 nG), by rw [World.cell?_setCell_other _ _ _ _ (by simp)]; exact cell_only hq h1.g2 nG,
    fun j => by rw [World.frozen?_setCell]; exact (frozen_only hq (show G < _ by omega) nG).trans (h1.gf j),
    own_set hz (fun k e => (h.zh k e).2) _, h.zh, own_set hbb (fun k e => (h.bh k e).2) _, h.bh, h.zb, hs2⟩

/-- a number of the base is written -/
theorem BldN.putB {R G B g n cap : Nat} {zv wv : Value} {us : List Value} {zs : List Int} {ws : List (List Int)} {bs : List Int} {w wr : World} (h : BldN R G B zv (.slice (some ⟨g, 0, none⟩) n cap) wv us zs ws bs w wr) (hn : n = bs.length) (j : Nat) (x : Int) :
    BldN R G B zv (.slice (some ⟨g, 0, none⟩) n cap) wv us zs ws (bs.set j x) w (wr.setCell ⟨g, j, none⟩ (.int .i64 x)) := by
  subst hn
  have hrg := h.rg; have hrw := h.rw; have hgb := h.gb
  have hg := own_lo h.b g rfl
  have hgB := h.bh g rfl
  have nR : R ≠ g := by omega
  have e : ints (bs.set j x) = (ints bs).set j (.int .i64 x) := by unfold ints; rw [List.map_set]
  refine ⟨h.below.setCell (show w.heap.size ≤ g by omega) _, hrw, hrg, hgb, by simpa using h.gs, ?_, ?_, ?_, fun k => by rw [World.frozen?_setCell]; exact h.rf k, ?_, ?_, ?_, fun k => by rw [World.frozen?_setCell]; exact h.gf k,
    own_set h.z (fun k hk e => h.zb k hk (by rw [show k = g from e.symm]; rfl)) _, h.zh, ?_, h.bh, h.zb, ?_⟩
  · rw [World.cell?_setCell_other _ _ _ _ (by simp; try omega)]; exact h.r0
  · rw [World.cell?_setCell_other _ _ _ _ (by simp; try omega)]; exact h.r1
  · rw [World.cell?_setCell_other _ _ _ _ (by simp; try omega)]; exact h.r2
  · rw [World.cell?_setCell_other _ _ _ _ (by simp [hgB.2.symm])]; exact h.g0
  · rw [World.cell?_setCell_other _ _ _ _ (by simp [hgB.2.symm])]; exact h.g1
  · rw [World.cell?_setCell_other _ _ _ _ (by simp [hgB.2.symm])]; exact h.g2
  · have := (World.ownsRow.stored h.b j (.int .i64 x)).1
    unfold OwnI
    rw [List.length_set, e]
    exact this
  · have := h.s.set (a := ⟨g, j, none⟩) (show g < B from hgB.1) (.int .i64 x)
    rwa [show (wr.setCell ⟨g, j, none⟩ (.int .i64 x)).heap.size = wr.heap.size by simp]

theorem BldN.own {R G B : Nat} {zv bv wv : Value} {us : List Value} {zs : List Int} {ws : List (List Int)} {bs : List Int} {w wr : World} (h : BldN R G B zv bv wv us zs ws bs w wr) : OwnM w.heap.size wr.heap.size wr zv wv bv us zs ws bs := by
  have hrw := h.rw
  have hrg := h.rg
  have hgb := h.gb
  have hgs := h.gs
  exact ⟨own_base h.z (by omega), own_lt h.z, h.s.wide (by omega) (Nat.le_refl _), own_base h.b (by omega), own_lt h.b, h.zb, fun b e e' => by have := (h.zh b e).1; have := own_lo h.s.row b e'; omega,
    fun k hk b e e' => by have := own_lo (h.s.own k hk) b e; have := (h.zh b e').1; omega, fun k hk b e e' => by have := own_lo (h.s.own k hk) b e; have := (h.bh b e').1; omega, fun b e e' => by have := (h.bh b e).1; have := own_lo h.s.row b e'; omega⟩
theorem BldN.ownR {R G B : Nat} {zv bv wv : Value} {us : List Value} {zs : List Int} {ws : List (List Int)} {bs : List Int} {w wr : World} (h : BldN R G B zv bv wv us zs ws bs w wr) (u0 u1 u2 : Value) :
    OwnM w.heap.size ((((wr.setCell ⟨R, 0, none⟩ u0).setCell ⟨R, 1, none⟩ u1).setCell ⟨R, 2, none⟩ u2)).heap.size (((wr.setCell ⟨R, 0, none⟩ u0).setCell ⟨R, 1, none⟩ u1).setCell ⟨R, 2, none⟩ u2) zv wv bv us zs ws bs := by
  have hrg := h.rg
  have hgb := h.gb
  have key : ∀ (w1 : World) (j : Nat) (u : Value), OwnM w.heap.size wr.heap.size w1 zv wv bv us zs ws bs → OwnM w.heap.size wr.heap.size (w1.setCell ⟨R, j, none⟩ u) zv wv bv us zs ws bs := fun w1 j u h1 =>
    h1.set3 (a := ⟨R, j, none⟩) (fun b e => by have := own_lo h.z b e; show R ≠ b; omega) (fun b e => by have := own_lo h.s.row b e; show R ≠ b; omega) (fun b e => by have := own_lo h.b b e; show R ≠ b; omega) (fun k hk b e => by have := own_lo (h.s.own k hk) b e; show R ≠ b; omega) u
  have := key _ 2 u2 (key _ 1 u1 (key _ 0 u0 h.own))
  simpa using this
theorem BldN.belowR {R G B : Nat} {zv bv wv : Value} {us : List Value} {zs : List Int} {ws : List (List Int)} {bs : List Int} {w wr : World} (h : BldN R G B zv bv wv us zs ws bs w wr) (u0 u1 u2 : Value) :
    Below w.heap.size w (((wr.setCell ⟨R, 0, none⟩ u0).setCell ⟨R, 1, none⟩ u1).setCell ⟨R, 2, none⟩ u2) :=
  ((h.below.setCell h.rw _).setCell h.rw _).setCell h.rw _

/-- .. and one list appended, as a step of a region that draws -/
theorem sapp_SS {ops : Array Oper} {o : Oper} {a : Act} {K : Act → World → Prop} {Q : Exit → Act → World → Prop} {E : Prop} (s x : Operand) (W : World) (base : Nat) (v : Value) (n : Nat) (us : List Value) (ao : Option Addr) (m cap g : Nat)
    (ho : o.op = .call { callee := .builtin .append, args := #[s, x], argTypes := #[43, 43] }) (hgd : o.guard = none) (hg : W.heap.size = g)
    (hs : a.eval s = v) (hx : a.eval x = .slice (some ⟨g, 0, none⟩) 1 1) (hown : W.ownsRow base 42 1 v n us) (hn : n ≤ 1000000) (hbase : base ≤ W.heap.size)
    (h : ∀ v' w', w'.ownsRow base 42 1 v' (n + 1) (us ++ [.slice ao m cap]) → Only (fun b => v.ownBlock = some b) W w' → (∀ b, v'.ownBlock = some b → v.ownBlock = some b ∨ W.heap.size ≤ b) → K (a.put o.dst v') w') :
    if Region.wanted o (yielded ops a.tmps) = true then Oper.wp Tryz.prog o a (W.alloc (.cells #[.slice ao m cap] 42)) K Q else E := by
  have hw : Region.wanted o (yielded ops a.tmps) = true := by simp [Region.wanted, hgd]
  rw [if_pos hw]
  subst hg
  obtain ⟨i0, hi, hz0, hz1, hz2⟩ := info_parts info_SS
  obtain ⟨v', w', hr, h2, h3, h4, h5⟩ := run_append_own_at (P := Tryz.prog) (W.alloc (.cells #[.slice ao m cap] 42)) base 43 o.type 42 i0 _ 1 24 Tryz.underlying43 hi hz0 hz1 hz2 rfl (by decide) v n us (hown.alloc _) ⟨W.heap.size, 0, none⟩ 1 1 [.slice ao m cap] rfl (World.news_of_block (heap_alloc_new W _)) (fun u hu => by simp at hu; subst hu; rfl) (by unfold maxLen; omega) (by omega) (by simp; omega)
  unfold Oper.wp execOp
  simp only [ho, resolve, invoke, builtin, Sem.run_bind, Sem.run_pure, Result.andThen_ok, List.map_toArray, List.map_cons, List.map_nil, hs, hx, hr]
  refine h v' w' h2 ((Only.of_below ((Below.refl _ _).alloc (Nat.le_refl _) _)).trans (Only.of_grown h3)) (fun b hb => ?_)
  rcases h5 with e | e
  · left; rw [← e]; exact hb
  · right; rw [e] at hb; simp at hb; omega

end Go.Proofs.YtgdadbmhdljcdaaGreatDoor

/- The sound with five partials. -/
namespace Go.Proofs.YtgdadbmhdljcdaaGreatDoor
set_option linter.unusedVariables false
open Go.RowKit Go.Proofs.Bell Go.BigFrame

def sndV (r : List Int) : Value := .agg #[.int .i64 (r.getD 0 0), .int .i64 (r.getD 1 0), .int .i64 (r.getD 2 0), .int .i64 (r.getD 3 0), .int .i64 (r.getD 4 0)]

set_option maxRecDepth 100000 in
set_option maxHeartbeats 1600000 in
theorem l04Sound_c (v : Value) (r : List Int) (hl : r.length = 5) (w : World) (h : Rd w v 5 (ints r)) : Calls Tryz.prog 153 #[v] w (RetB (sndV r) w) := by
  obtain ⟨hn, ao, cap, b, off, rfl, hao, hcell⟩ := h.open
  obtain rfl : ao = some ⟨b, off, none⟩ := hao (by omega)
  have c0 := hcell w (Below.refl _ _) 0 _ (by omega) (intsAt (show 0 < r.length by omega))
  have c1 := hcell w (Below.refl _ _) 1 _ (by omega) (intsAt (show 1 < r.length by omega))
  have c2 := hcell w (Below.refl _ _) 2 _ (by omega) (intsAt (show 2 < r.length by omega))
  have c3 := hcell w (Below.refl _ _) 3 _ (by omega) (intsAt (show 3 < r.length by omega))
  have c4 := hcell w (Below.refl _ _) 4 _ (by omega) (intsAt (show 4 < r.length by omega))
  rw [← getD_eq (by omega)] at c0 c1 c2 c3 c4
  rw [Nat.add_zero] at c0
  clear hcell h hao
  unfold sndV
  generalize r.getD 0 0 = x0 at *
  generalize r.getD 1 0 = x1 at *
  generalize r.getD 2 0 = x2 at *
  generalize r.getD 3 0 = x3 at *
  generalize r.getD 4 0 = x4 at *
  have i0 := ix (P := Tryz.prog) (T := 42) (n := 5) (cap := cap) Tryz.underlying42 cells_int64 has_int64 (ao := some ⟨b, off, none⟩) (b := b) (off := off) (fun _ => rfl) (k := 0) (by omega) 0 rfl
  have i1 := ix (P := Tryz.prog) (T := 42) (n := 5) (cap := cap) Tryz.underlying42 cells_int64 has_int64 (ao := some ⟨b, off, none⟩) (b := b) (off := off) (fun _ => rfl) (k := 1) (by omega) 1 rfl
  have i2 := ix (P := Tryz.prog) (T := 42) (n := 5) (cap := cap) Tryz.underlying42 cells_int64 has_int64 (ao := some ⟨b, off, none⟩) (b := b) (off := off) (fun _ => rfl) (k := 2) (by omega) 2 rfl
  have i3 := ix (P := Tryz.prog) (T := 42) (n := 5) (cap := cap) Tryz.underlying42 cells_int64 has_int64 (ao := some ⟨b, off, none⟩) (b := b) (off := off) (fun _ => rfl) (k := 3) (by omega) 3 rfl
  have i4 := ix (P := Tryz.prog) (T := 42) (n := 5) (cap := cap) Tryz.underlying42 cells_int64 has_int64 (ao := some ⟨b, off, none⟩) (b := b) (off := off) (fun _ => rfl) (k := 4) (by omega) 4 rfl
  simp only [Nat.mul_one, Nat.add_zero, Nat.zero_mul] at i0 i1 i2 i3 i4
  have d0 := fun o => alloc_cell o c0
  have d1 := fun o => alloc_cell o c1
  have d2 := fun o => alloc_cell o c2
  have d3 := fun o => alloc_cell o c3
  have d4 := fun o => alloc_cell o c4
  clear hl
  go_enter Tryz.func153, Tryz.ntmps153
  go_wp2_with fail
  refine wp_region_drew_tail 16 (by kernel_rfl) (by kernel_rfl) ?_
  simp only [List.take_succ_cons, List.take_zero, List.drop_succ_cons, List.drop_zero]
  repeat (quiet_step (fail))
  refine wpQuiet_nil ?_
  rintro _ ⟨nq, rfl⟩
  clear c0 c1 c2 c3 c4 d0 d1 d2 d3 d4 i0 i1 i2 i3 i4
  have b1 : Below w.heap.size w ((w.alloc (.cells #[.int .i64 0, .int .i64 0, .int .i64 0, .int .i64 0, .int .i64 0] 47)).drewN nq) := below_drewN ((Below.refl _ _).alloc (Nat.le_refl _) _) nq
  have e : ∀ j, j < 5 → ((w.alloc (.cells #[.int .i64 0, .int .i64 0, .int .i64 0, .int .i64 0, .int .i64 0] 47)).drewN nq).cell? ⟨w.heap.size, j, none⟩ = some (.int .i64 0) := fun j hj => by
    match j, hj with
    | 0, _ => simp [go_sem]
    | 1, _ => simp [go_sem]
    | 2, _ => simp [go_sem]
    | 3, _ => simp [go_sem]
    | 4, _ => simp [go_sem]
  have f : ∀ j, ((w.alloc (.cells #[.int .i64 0, .int .i64 0, .int .i64 0, .int .i64 0, .int .i64 0] 47)).drewN nq).frozen? ⟨w.heap.size, j, none⟩ = false := fun j => by simp [go_sem]
  generalize (w.alloc (.cells #[.int .i64 0, .int .i64 0, .int .i64 0, .int .i64 0, .int .i64 0] 47)).drewN nq = w1 at *
  have e0 := e 0 (by omega)
  have e1 := e 1 (by omega)
  have e2 := e 2 (by omega)
  have e3 := e 3 (by omega)
  have e4 := e 4 (by omega)
  clear e
  go_wp2
  refine bodyPost_ret (v := .agg #[.int .i64 x0, .int .i64 x1, .int .i64 x2, .int .i64 x3, .int .i64 x4]) (by simp [results, Tryz.results153, go_sem, cell_setCell, e0, e1, e2, e3, e4]) rfl ?_
  exact RetB.mk rfl (((((b1.setCell (Nat.le_refl _) _).setCell (Nat.le_refl _) _).setCell (Nat.le_refl _) _).setCell (Nat.le_refl _) _).setCell (Nat.le_refl _) _)

end Go.Proofs.YtgdadbmhdljcdaaGreatDoor

/- A result's box in a region of a law that draws its order: wherever the box is made, the same is known behind the region. -/
namespace Go.Proofs.YtgdadbmhdljcdaaGreatDoor
set_option linter.unusedVariables false
open Go.RowKit Go.Proofs.Bell Go.BigFrame

structure BoxS (B : Nat) (w : World) (bx : Nat) : Prop where
  lo : B ≤ bx
  lt : bx < w.heap.size
  c0 : w.cell? ⟨bx, 0, none⟩ = some (.int .i64 0)
  c1 : w.cell? ⟨bx, 1, none⟩ = some (.int .i64 0)
  c2 : w.cell? ⟨bx, 2, none⟩ = some (.int .i64 0)
  c3 : w.cell? ⟨bx, 3, none⟩ = some (.int .i64 0)
  c4 : w.cell? ⟨bx, 4, none⟩ = some (.int .i64 0)
  f : ∀ j, w.frozen? ⟨bx, j, none⟩ = false
theorem BoxS.later {B : Nat} {w w' : World} {bx : Nat} (h : BoxS B w bx) (hb : Below w.heap.size w w') : BoxS B w' bx :=
  ⟨h.lo, Nat.lt_of_lt_of_le h.lt hb.size, below_cell hb h.c0, below_cell hb h.c1, below_cell hb h.c2, below_cell hb h.c3, below_cell hb h.c4, fun j => (hb.frozen (p := ⟨bx, j, none⟩) h.lt).trans (h.f j)⟩
theorem BoxS.made {B : Nat} {X : World} (hB : B ≤ X.heap.size) : BoxS B (X.alloc (.cells #[.int .i64 0, .int .i64 0, .int .i64 0, .int .i64 0, .int .i64 0] 47)) X.heap.size :=
  ⟨hB, by simp, by simp [go_sem], by simp [go_sem], by simp [go_sem], by simp [go_sem], by simp [go_sem], fun j => by simp [go_sem]⟩
theorem BoxS.after {B : Nat} {X w' : World} (hb : Below (X.alloc (.cells #[.int .i64 0, .int .i64 0, .int .i64 0, .int .i64 0, .int .i64 0] 47)).heap.size (X.alloc (.cells #[.int .i64 0, .int .i64 0, .int .i64 0, .int .i64 0, .int .i64 0] 47)) w') (hB : B ≤ X.heap.size) : BoxS B w' X.heap.size := (BoxS.made hB).later hb
theorem BoxS.afterD {B : Nat} {X w' : World} (hb : Below (X.alloc (.cells #[.int .i64 0, .int .i64 0, .int .i64 0, .int .i64 0, .int .i64 0] 47)).drew.heap.size (X.alloc (.cells #[.int .i64 0, .int .i64 0, .int .i64 0, .int .i64 0, .int .i64 0] 47)).drew w') (hB : B ≤ X.heap.size) : BoxS B w' X.heap.size := ((BoxS.made hB).later (Below.refl _ _).drew).later hb
def CutS (t0a t0b t0c t0d t0e : Int) (t1 : Int) (wk : World) (s6 s7 : Value) (wx : World) : Prop := ∃ (bx : Nat), s6 = .pointer (some ⟨bx, 0, none⟩) ∧ s7 = .int .i64 t1 ∧ wk.heap.size ≤ bx ∧ bx < wx.heap.size ∧ wx.cell? ⟨bx, 0, none⟩ = some (.int .i64 t0a) ∧ wx.cell? ⟨bx, 1, none⟩ = some (.int .i64 t0b) ∧ wx.cell? ⟨bx, 2, none⟩ = some (.int .i64 t0c) ∧ wx.cell? ⟨bx, 3, none⟩ = some (.int .i64 t0d) ∧ wx.cell? ⟨bx, 4, none⟩ = some (.int .i64 t0e) ∧ Below wk.heap.size wk wx
theorem CutS.set {t0a t0b t0c t0d t0e : Int} {t1 : Int} {wk w1 : World} {bx : Nat} (h : BoxS wk.heap.size w1 bx) (hb : Below wk.heap.size wk w1) :
    CutS t0a t0b t0c t0d t0e t1 wk (.pointer (some ⟨bx, 0, none⟩)) (.int .i64 t1) (((((w1.setCell ⟨bx, 0, none⟩ (.int .i64 t0a)).setCell ⟨bx, 1, none⟩ (.int .i64 t0b)).setCell ⟨bx, 2, none⟩ (.int .i64 t0c)).setCell ⟨bx, 3, none⟩ (.int .i64 t0d)).setCell ⟨bx, 4, none⟩ (.int .i64 t0e)) :=
  ⟨bx, rfl, rfl, h.lo, (by simpa using h.lt), ((World.cell?_setCell_other _ _ _ _ (by simp)).trans (((World.cell?_setCell_other _ _ _ _ (by simp)).trans (((World.cell?_setCell_other _ _ _ _ (by simp)).trans (((World.cell?_setCell_other _ _ _ _ (by simp)).trans (World.cell?_setCell_same _ _ _ h.c0)))))))), ((World.cell?_setCell_other _ _ _ _ (by simp)).trans (((World.cell?_setCell_other _ _ _ _ (by simp)).trans (((World.cell?_setCell_other _ _ _ _ (by simp)).trans (World.cell?_setCell_same _ _ _ ((World.cell?_setCell_other _ _ _ _ (by simp)).trans h.c1))))))), ((World.cell?_setCell_other _ _ _ _ (by simp)).trans (((World.cell?_setCell_other _ _ _ _ (by simp)).trans (World.cell?_setCell_same _ _ _ ((World.cell?_setCell_other _ _ _ _ (by simp)).trans ((World.cell?_setCell_other _ _ _ _ (by simp)).trans h.c2)))))), ((World.cell?_setCell_other _ _ _ _ (by simp)).trans (World.cell?_setCell_same _ _ _ ((World.cell?_setCell_other _ _ _ _ (by simp)).trans ((World.cell?_setCell_other _ _ _ _ (by simp)).trans ((World.cell?_setCell_other _ _ _ _ (by simp)).trans h.c3))))), World.cell?_setCell_same _ _ _ ((World.cell?_setCell_other _ _ _ _ (by simp)).trans ((World.cell?_setCell_other _ _ _ _ (by simp)).trans ((World.cell?_setCell_other _ _ _ _ (by simp)).trans ((World.cell?_setCell_other _ _ _ _ (by simp)).trans h.c4)))), (((((hb.setCell h.lo _).setCell h.lo _).setCell h.lo _).setCell h.lo _).setCell h.lo _)⟩
theorem CutS.mk {t0a t0b t0c t0d t0e : Int} {t1 : Int} {wk w1 : World} (hb : Below wk.heap.size wk w1) :
    CutS t0a t0b t0c t0d t0e t1 wk (.pointer (some ⟨w1.heap.size, 0, none⟩)) (.int .i64 t1) (w1.alloc (.cells #[.int .i64 t0a, .int .i64 t0b, .int .i64 t0c, .int .i64 t0d, .int .i64 t0e] 47)) :=
  ⟨w1.heap.size, rfl, rfl, hb.size, by simp, by simp [go_sem], by simp [go_sem], by simp [go_sem], by simp [go_sem], by simp [go_sem], hb.alloc hb.size _⟩
theorem BoxS.keep {B : Nat} {w : World} {bx : Nat} (h : BoxS B w bx) {p : Addr} {v : Value} (hp : w.cell? p = some v) (hlt : p.block < B) (x0 : Value) (x1 : Value) (x2 : Value) (x3 : Value) (x4 : Value) : ((((((w.setCell ⟨bx, 0, none⟩ x0).setCell ⟨bx, 1, none⟩ x1).setCell ⟨bx, 2, none⟩ x2).setCell ⟨bx, 3, none⟩ x3).setCell ⟨bx, 4, none⟩ x4)).cell? p = some v := by
  have := h.lo
  have hne : ∀ j, p ≠ ⟨bx, j, none⟩ := fun j e => by rw [e] at hlt; simp at hlt; omega
  rw [World.cell?_setCell_other _ _ _ _ (Ne.symm (hne _)), World.cell?_setCell_other _ _ _ _ (Ne.symm (hne _)), World.cell?_setCell_other _ _ _ _ (Ne.symm (hne _)), World.cell?_setCell_other _ _ _ _ (Ne.symm (hne _)), World.cell?_setCell_other _ _ _ _ (Ne.symm (hne _))]
  exact hp

structure BoxP (B : Nat) (w : World) (bx : Nat) : Prop where
  lo : B ≤ bx
  lt : bx < w.heap.size
  c0 : w.cell? ⟨bx, 0, none⟩ = some (.string ⟨#[]⟩)
  c1 : w.cell? ⟨bx, 1, none⟩ = some (.slice none 0 0)
  f : ∀ j, w.frozen? ⟨bx, j, none⟩ = false
theorem BoxP.later {B : Nat} {w w' : World} {bx : Nat} (h : BoxP B w bx) (hb : Below w.heap.size w w') : BoxP B w' bx :=
  ⟨h.lo, Nat.lt_of_lt_of_le h.lt hb.size, below_cell hb h.c0, below_cell hb h.c1, fun j => (hb.frozen (p := ⟨bx, j, none⟩) h.lt).trans (h.f j)⟩
theorem BoxP.made {B : Nat} {X : World} (hB : B ≤ X.heap.size) : BoxP B (X.alloc (.cells #[.string ⟨#[]⟩, .slice none 0 0] 26)) X.heap.size :=
  ⟨hB, by simp, by simp [go_sem], by simp [go_sem], fun j => by simp [go_sem]⟩
theorem BoxP.after {B : Nat} {X w' : World} (hb : Below (X.alloc (.cells #[.string ⟨#[]⟩, .slice none 0 0] 26)).heap.size (X.alloc (.cells #[.string ⟨#[]⟩, .slice none 0 0] 26)) w') (hB : B ≤ X.heap.size) : BoxP B w' X.heap.size := (BoxP.made hB).later hb
theorem BoxP.afterD {B : Nat} {X w' : World} (hb : Below (X.alloc (.cells #[.string ⟨#[]⟩, .slice none 0 0] 26)).drew.heap.size (X.alloc (.cells #[.string ⟨#[]⟩, .slice none 0 0] 26)).drew w') (hB : B ≤ X.heap.size) : BoxP B w' X.heap.size := ((BoxP.made hB).later (Below.refl _ _).drew).later hb
def CutP (qn0 : ByteArray) (q0 : List (Int × Int × Int)) (t1 : Int) (wk : World) (s6 s7 : Value) (wx : World) : Prop := ∃ (bx : Nat) (ao : Option Addr) (cp : Nat), s6 = .pointer (some ⟨bx, 0, none⟩) ∧ s7 = .int .i64 t1 ∧ wk.heap.size ≤ bx ∧ bx < wx.heap.size ∧ wx.cell? ⟨bx, 0, none⟩ = some (.string qn0) ∧ wx.cell? ⟨bx, 1, none⟩ = some (.slice ao q0.length cp) ∧ OwnR wk.heap.size wx (.slice ao q0.length cp) q0 ∧ Below wk.heap.size wk wx
theorem CutP.set {qn0 : ByteArray} {q0 : List (Int × Int × Int)} {ao : Option Addr} {cp : Nat} {t1 : Int} {wk w1 : World} {bx : Nat} (h : BoxP wk.heap.size w1 bx) (hb : Below wk.heap.size wk w1) {L : Nat} (ho : OwnR L w1 (.slice ao q0.length cp) q0) (hL : bx < L) (hB : wk.heap.size ≤ L) :
    CutP qn0 q0 t1 wk (.pointer (some ⟨bx, 0, none⟩)) (.int .i64 t1) ((w1.setCell ⟨bx, 0, none⟩ (.string qn0)).setCell ⟨bx, 1, none⟩ (.slice ao q0.length cp)) :=
  ⟨bx, ao, cp, rfl, rfl, h.lo, (by simpa using h.lt), ((World.cell?_setCell_other _ _ _ _ (by simp)).trans (World.cell?_setCell_same _ _ _ h.c0)), World.cell?_setCell_same _ _ _ ((World.cell?_setCell_other _ _ _ _ (by simp)).trans h.c1), own_base (own_set (own_set ho (fun k hk => by have := own_lo ho k hk; show bx ≠ k; omega) _) (fun k hk => by have := own_lo ho k hk; show bx ≠ k; omega) _) hB, ((hb.setCell h.lo _).setCell h.lo _)⟩
theorem CutP.mk {qn0 : ByteArray} {q0 : List (Int × Int × Int)} {ao : Option Addr} {cp : Nat} {t1 : Int} {wk w1 : World} (hb : Below wk.heap.size wk w1) {L : Nat} (ho : OwnR L w1 (.slice ao q0.length cp) q0) (hB : wk.heap.size ≤ L) :
    CutP qn0 q0 t1 wk (.pointer (some ⟨w1.heap.size, 0, none⟩)) (.int .i64 t1) (w1.alloc (.cells #[.string qn0, .slice ao q0.length cp] 26)) :=
  ⟨w1.heap.size, ao, cp, rfl, rfl, hb.size, by simp, by simp [go_sem], by simp [go_sem], own_base (own_later ho ((Below.refl _ _).alloc (Nat.le_refl _) _)) hB, hb.alloc hb.size _⟩
theorem BoxP.keep {B : Nat} {w : World} {bx : Nat} (h : BoxP B w bx) {p : Addr} {v : Value} (hp : w.cell? p = some v) (hlt : p.block < B) (x0 : Value) (x1 : Value) : (((w.setCell ⟨bx, 0, none⟩ x0).setCell ⟨bx, 1, none⟩ x1)).cell? p = some v := by
  have := h.lo
  have hne : ∀ j, p ≠ ⟨bx, j, none⟩ := fun j e => by rw [e] at hlt; simp at hlt; omega
  rw [World.cell?_setCell_other _ _ _ _ (Ne.symm (hne _)), World.cell?_setCell_other _ _ _ _ (Ne.symm (hne _))]
  exact hp

structure BoxM (B : Nat) (w : World) (bx : Nat) : Prop where
  lo : B ≤ bx
  lt : bx < w.heap.size
  c0 : w.cell? ⟨bx, 0, none⟩ = some (.slice none 0 0)
  c1 : w.cell? ⟨bx, 1, none⟩ = some (.slice none 0 0)
  c2 : w.cell? ⟨bx, 2, none⟩ = some (.slice none 0 0)
  f : ∀ j, w.frozen? ⟨bx, j, none⟩ = false
theorem BoxM.later {B : Nat} {w w' : World} {bx : Nat} (h : BoxM B w bx) (hb : Below w.heap.size w w') : BoxM B w' bx :=
  ⟨h.lo, Nat.lt_of_lt_of_le h.lt hb.size, below_cell hb h.c0, below_cell hb h.c1, below_cell hb h.c2, fun j => (hb.frozen (p := ⟨bx, j, none⟩) h.lt).trans (h.f j)⟩
theorem BoxM.made {B : Nat} {X : World} (hB : B ≤ X.heap.size) : BoxM B (X.alloc (.cells #[.slice none 0 0, .slice none 0 0, .slice none 0 0] 45)) X.heap.size :=
  ⟨hB, by simp, by simp [go_sem], by simp [go_sem], by simp [go_sem], fun j => by simp [go_sem]⟩
theorem BoxM.after {B : Nat} {X w' : World} (hb : Below (X.alloc (.cells #[.slice none 0 0, .slice none 0 0, .slice none 0 0] 45)).heap.size (X.alloc (.cells #[.slice none 0 0, .slice none 0 0, .slice none 0 0] 45)) w') (hB : B ≤ X.heap.size) : BoxM B w' X.heap.size := (BoxM.made hB).later hb
theorem BoxM.afterD {B : Nat} {X w' : World} (hb : Below (X.alloc (.cells #[.slice none 0 0, .slice none 0 0, .slice none 0 0] 45)).drew.heap.size (X.alloc (.cells #[.slice none 0 0, .slice none 0 0, .slice none 0 0] 45)).drew w') (hB : B ≤ X.heap.size) : BoxM B w' X.heap.size := ((BoxM.made hB).later (Below.refl _ _).drew).later hb
def CutM (qz0 : List Int) (qw0 : List (List Int)) (qb0 : List Int) (t1 : Int) (wk : World) (s6 s7 : Value) (wx : World) : Prop := ∃ (bx : Nat) (az aw ab : Option Addr) (cz cw cb : Nat) (us : List Value), s6 = .pointer (some ⟨bx, 0, none⟩) ∧ s7 = .int .i64 t1 ∧ wk.heap.size ≤ bx ∧ bx < wx.heap.size ∧ wx.cell? ⟨bx, 0, none⟩ = some (.slice az qz0.length cz) ∧ wx.cell? ⟨bx, 1, none⟩ = some (.slice aw qw0.length cw) ∧ wx.cell? ⟨bx, 2, none⟩ = some (.slice ab qb0.length cb) ∧ OwnM wk.heap.size wx.heap.size wx (.slice az qz0.length cz) (.slice aw qw0.length cw) (.slice ab qb0.length cb) us qz0 qw0 qb0 ∧ Below wk.heap.size wk wx
theorem CutM.set {qz0 : List Int} {qw0 : List (List Int)} {qb0 : List Int} {az aw ab : Option Addr} {cz cw cb : Nat} {us : List Value} {t1 : Int} {wk w1 : World} {bx : Nat} (h : BoxM wk.heap.size w1 bx) (hb : Below wk.heap.size wk w1) {L : Nat} (ho : OwnM L w1.heap.size w1 (.slice az qz0.length cz) (.slice aw qw0.length cw) (.slice ab qb0.length cb) us qz0 qw0 qb0) (hL : bx < L) (hB : wk.heap.size ≤ L) :
    CutM qz0 qw0 qb0 t1 wk (.pointer (some ⟨bx, 0, none⟩)) (.int .i64 t1) (((w1.setCell ⟨bx, 0, none⟩ (.slice az qz0.length cz)).setCell ⟨bx, 1, none⟩ (.slice aw qw0.length cw)).setCell ⟨bx, 2, none⟩ (.slice ab qb0.length cb)) :=
  ⟨bx, az, aw, ab, cz, cw, cb, us, rfl, rfl, h.lo, (by simpa using h.lt), ((World.cell?_setCell_other _ _ _ _ (by simp)).trans (((World.cell?_setCell_other _ _ _ _ (by simp)).trans (World.cell?_setCell_same _ _ _ h.c0)))), ((World.cell?_setCell_other _ _ _ _ (by simp)).trans (World.cell?_setCell_same _ _ _ ((World.cell?_setCell_other _ _ _ _ (by simp)).trans h.c1))), World.cell?_setCell_same _ _ _ ((World.cell?_setCell_other _ _ _ _ (by simp)).trans ((World.cell?_setCell_other _ _ _ _ (by simp)).trans h.c2)), (by have := (((ho.set (a := ⟨bx, 0, none⟩) hL (.slice az qz0.length cz)).set (a := ⟨bx, 1, none⟩) hL (.slice aw qw0.length cw)).set (a := ⟨bx, 2, none⟩) hL (.slice ab qb0.length cb)).wide hB (Nat.le_refl _); simpa using this), (((hb.setCell h.lo _).setCell h.lo _).setCell h.lo _)⟩
theorem CutM.mk {qz0 : List Int} {qw0 : List (List Int)} {qb0 : List Int} {az aw ab : Option Addr} {cz cw cb : Nat} {us : List Value} {t1 : Int} {wk w1 : World} (hb : Below wk.heap.size wk w1) {L : Nat} (ho : OwnM L w1.heap.size w1 (.slice az qz0.length cz) (.slice aw qw0.length cw) (.slice ab qb0.length cb) us qz0 qw0 qb0) (hB : wk.heap.size ≤ L) :
    CutM qz0 qw0 qb0 t1 wk (.pointer (some ⟨w1.heap.size, 0, none⟩)) (.int .i64 t1) (w1.alloc (.cells #[.slice az qz0.length cz, .slice aw qw0.length cw, .slice ab qb0.length cb] 45)) :=
  ⟨w1.heap.size, az, aw, ab, cz, cw, cb, us, rfl, rfl, hb.size, by simp, by simp [go_sem], by simp [go_sem], by simp [go_sem], (ho.later ((Below.refl _ _).alloc (Nat.le_refl _) _)).wide hB (by simp), hb.alloc hb.size _⟩
theorem BoxM.keep {B : Nat} {w : World} {bx : Nat} (h : BoxM B w bx) {p : Addr} {v : Value} (hp : w.cell? p = some v) (hlt : p.block < B) (x0 : Value) (x1 : Value) (x2 : Value) : ((((w.setCell ⟨bx, 0, none⟩ x0).setCell ⟨bx, 1, none⟩ x1).setCell ⟨bx, 2, none⟩ x2)).cell? p = some v := by
  have := h.lo
  have hne : ∀ j, p ≠ ⟨bx, j, none⟩ := fun j e => by rw [e] at hlt; simp at hlt; omega
  rw [World.cell?_setCell_other _ _ _ _ (Ne.symm (hne _)), World.cell?_setCell_other _ _ _ _ (Ne.symm (hne _)), World.cell?_setCell_other _ _ _ _ (Ne.symm (hne _))]
  exact hp

theorem below_alloc (w : World) (o : Obj) : Below w.heap.size w (w.alloc o) := (Below.refl _ _).alloc (Nat.le_refl _) o
theorem below_of_alloc {w w1 : World} {o : Obj} (h : Below (w.alloc o).heap.size (w.alloc o) w1) : Below w.heap.size w w1 := (below_alloc w o).trans (h.mono (below_alloc w o).size)
theorem below_alloced {B : Nat} {w wd : World} (h : Below B w wd) (hB : B ≤ wd.heap.size) (o : Obj) : Below B w (wd.alloc o) := h.alloc hB o
theorem lt_alloc (w : World) (o : Obj) : w.heap.size < (w.alloc o).heap.size := by simp

end Go.Proofs.YtgdadbmhdljcdaaGreatDoor

