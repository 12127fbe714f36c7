/- append of one list onto a list of lists of one's own; a model that is built row by row. -/
import Derived.Test.YtmeeibcbhjifbaaGC
import Derived.Test.YtmeeibcbhjifbaaGE
import Derived.Test.YtmeeibcbhjifbaaOwn1
import Derived.Test.YtmeeibcbhjifbaaVH
import Derived.Maps.AppendAt
namespace Go.Proofs.Ytmeeibcbhjifbaa
set_option linter.unusedVariables false
open Go.RowKit Go.Proofs.Bell Go.BigFrame

theorem app_SS {ops : Array Oper} {rest : List Oper} {o : Oper} {a : Act} {Q : Exit → Act → World → Prop} (s x : Operand) (W : World) (base : Nat) (v : Value) (n : Nat) (us : List Value) (ao : Option Addr) (m cap : Nat)
    (ho : o.op = .call { callee := .builtin .append, args := #[s, x], argTypes := #[39, 39] }) (hgd : o.guard = none)
    (hs : a.eval s = v) (hx : a.eval x = .slice (some ⟨W.heap.size, 0, none⟩) 1 1) (hown : W.ownsRow base 38 1 v n us) (hn : n ≤ 1000000) (hbase : base ≤ W.heap.size)
    (h : ∀ v' w', w'.ownsRow base 38 1 v' (n + 1) (us ++ [.slice ao m cap]) → Only (fun b => v.ownBlock = some b) W w' → (∀ b, v'.ownBlock = some b → v.ownBlock = some b ∨ W.heap.size ≤ b) → wpList Try.prog ops Q rest (a.put o.dst v') w') :
    wpList Try.prog ops Q (o :: rest) a (W.alloc (.cells #[.slice ao m cap] 38)) := by
  obtain ⟨i0, hi, hz0, hz1, hz2⟩ := info_parts info_SS
  refine wpList_append_own_at _ hgd s x 39 ho base 38 i0 _ 1 24 Try.underlying39 hi hz0 hz1 hz2 rfl (by decide) v n us hs (hown.alloc _) ⟨W.heap.size, 0, none⟩ 1 1 [.slice ao m cap] hx rfl (World.news_of_block (heap_alloc_new W _)) (fun u hu => by simp at hu; subst hu; rfl) (by unfold maxLen; omega) (by omega) (by simp; omega) ?_
  intro v' w' ho' hg _ hat
  refine h v' w' ho' ((Only.of_below ((Below.refl _ _).alloc (Nat.le_refl _) _)).trans (Only.of_grown hg)) (fun b hb => ?_)
  rcases hat with e | e
  · left; rw [← e]; exact hb
  · right; rw [e] at hb; simp at hb; omega

theorem OwnSS.snoc {lo hi : Nat} {W w' : World} {v v' u : Value} {us : List Value} {ws : List (List Int)} {row : List Int} (h : OwnSS lo hi W v us ws) (hhi : hi ≤ W.heap.size) (hlh : lo ≤ hi)
    (hu : OwnI hi W u row) (ho : w'.ownsRow lo 38 1 v' (ws.length + 1) (us ++ [u])) (hq : Only (fun b => v.ownBlock = some b) W w') (hat : ∀ b, v'.ownBlock = some b → v.ownBlock = some b ∨ W.heap.size ≤ b) :
    OwnSS lo w'.heap.size w' v' (us ++ [u]) (ws ++ [row]) := by
  have hsz := hq.size
  have hl := h.len
  have gl : ∀ j, j < ws.length → (us ++ [u]).getD j nv = us.getD j nv := fun j hj => by simp [List.getD, List.getElem?_append_left (show j < us.length by omega)]
  have gr : (us ++ [u]).getD ws.length nv = u := by rw [← hl]; simp [List.getD]
  have wl : ∀ j, j < ws.length → (ws ++ [row]).getD j [] = ws.getD j [] := fun j hj => by simp [List.getD, List.getElem?_append_left hj]
  have wr : (ws ++ [row]).getD ws.length [] = row := by simp [List.getD]
  have hown : ∀ k, k < (ws ++ [row]).length → OwnI lo w' ((us ++ [u]).getD k nv) ((ws ++ [row]).getD k []) := fun k hk => by
    simp only [List.length_append, List.length_cons, List.length_nil] at hk
    rcases Nat.lt_or_ge k ws.length with h1 | h1
    · rw [gl k h1, wl k h1]; exact own_only (h.own k h1) hq (fun b hb hS => h.cd k h1 b hb hS)
    · obtain rfl : k = ws.length := by omega
      rw [gr, wr]
      exact own_base (own_only hu hq (fun b hb hS => by have := own_lo hu b hb; have := h.rowh b hS; omega)) hlh
  refine ⟨by simp [hl], by simpa using ho, own_lt ho, hown, fun k hk => own_lt (hown k hk), fun j k hj hk b hb => ?_, fun k hk b hb hv => ?_⟩
  · simp only [List.length_append, List.length_cons, List.length_nil] at hk
    rw [gl j (by omega)]
    rcases Nat.lt_or_ge k ws.length with h1 | h1
    · rw [gl k h1] at hb; exact h.dis j k hj h1 b hb
    · obtain rfl : k = ws.length := by omega
      rw [gr] at hb
      intro e
      have h2 := own_lo hu b hb
      have h3 := h.top j hj b e
      omega
  · simp only [List.length_append, List.length_cons, List.length_nil] at hk
    rcases Nat.lt_or_ge k ws.length with h1 | h1
    · rw [gl k h1] at hb
      rcases hat b hv with e | e
      · exact h.cd k h1 b hb e
      · have := h.top k h1 b hb; omega
    · obtain rfl : k = ws.length := by omega
      rw [gr] at hb
      have h2 := own_lo hu b hb
      have h3 := own_lt hu b hb
      rcases hat b hv with e | e
      · have := h.rowh b e; omega
      · omega

theorem OwnSS.empty (lo : Nat) (w : World) : OwnSS lo w.heap.size w nv [] [] :=
  ⟨rfl, World.ownsRow_nil _ _ _ _, fun b h => (by cases h), fun k hk => absurd hk (by simp), fun k hk => absurd hk (by simp), fun j k _ hk => absurd hk (by simp), fun k hk => absurd hk (by simp)⟩
theorem OwnSS.up {lo hi : Nat} {w w' : World} {v : Value} {us : List Value} {ws : List (List Int)} (h : OwnSS lo hi w v us ws) (hb : Below w.heap.size w w') (hh : hi ≤ w'.heap.size) : OwnSS lo w'.heap.size w' v us ws := (h.later hb).wide (Nat.le_refl _) hh

/-- a model that is built in the block G; the result's block is R; zones and base lie between them, the weights behind -/
structure BldM (R G : Nat) (zv bv wv : Value) (us : List Value) (zs : List Int) (ws : List (List Int)) (bs : List Int) (w wr : World) : Prop where
  below : Below w.heap.size w wr
  rw : w.heap.size ≤ R
  rg : R < G
  gs : G < wr.heap.size
  r0 : wr.cell? ⟨R, 0, none⟩ = some nv
  r1 : wr.cell? ⟨R, 1, none⟩ = some nv
  r2 : wr.cell? ⟨R, 2, none⟩ = some nv
  rf : ∀ j, wr.frozen? ⟨R, j, none⟩ = false
  g0 : wr.cell? ⟨G, 0, none⟩ = some zv
  g1 : wr.cell? ⟨G, 1, none⟩ = some wv
  g2 : wr.cell? ⟨G, 2, none⟩ = some bv
  gf : ∀ j, wr.frozen? ⟨G, j, none⟩ = false
  z : OwnI (R + 1) wr zv zs
  zh : ∀ b, zv.ownBlock = some b → b < G
  b : OwnI (R + 1) wr bv bs
  bh : ∀ b, bv.ownBlock = some b → b < G
  zb : ∀ b, zv.ownBlock = some b → bv.ownBlock ≠ some b
  s : OwnSS (G + 1) wr.heap.size wr wv us ws

theorem BldM.later {R G : Nat} {zv bv wv : Value} {us : List Value} {zs : List Int} {ws : List (List Int)} {bs : List Int} {w wr w1 : World} (h : BldM R G zv bv wv us zs ws bs w wr) (hb : Below wr.heap.size wr w1) : BldM R G zv bv wv us zs ws bs w w1 :=
  ⟨h.below.trans (hb.mono h.below.size), h.rw, h.rg, Nat.lt_of_lt_of_le h.gs hb.size, below_cell hb h.r0, below_cell hb h.r1, below_cell hb h.r2,
   fun j => (hb.frozen (p := ⟨R, j, none⟩) (Nat.lt_trans h.rg h.gs)).trans (h.rf j), below_cell hb h.g0, below_cell hb h.g1, below_cell hb h.g2, fun j => (hb.frozen (p := ⟨G, j, none⟩) h.gs).trans (h.gf j),
   own_later h.z hb, h.zh, own_later h.b hb, h.bh, h.zb, h.s.up hb hb.size⟩

theorem BldM.next {R G : Nat} {zv bv wv v' u : Value} {us : List Value} {zs row : List Int} {ws : List (List Int)} {bs : List Int} {w wr wi w' : World} (h : BldM R G zv bv wv us zs ws bs w wr) (hb : Below wr.heap.size wr wi)
    (hu : OwnI wr.heap.size wi u row) (ho : w'.ownsRow (G + 1) 38 1 v' (ws.length + 1) (us ++ [u])) (hq : Only (fun b => wv.ownBlock = some b) wi w') (hat : ∀ b, v'.ownBlock = some b → wv.ownBlock = some b ∨ wi.heap.size ≤ b) :
    BldM R G zv bv v' (us ++ [u]) zs (ws ++ [row]) bs w (w'.setCell ⟨G, 1, none⟩ v') := by
  have h1 := h.later hb
  have hsz := hq.size
  have hw0 := h.gs
  have hw1 := hb.size
  have hrg := h.rg
  have hrw := h.rw
  have hs : OwnSS (G + 1) wr.heap.size wi wv us ws := h.s.later hb
  have hn := hs.snoc (row := row) hb.size hw0 hu ho hq hat
  have nG : ¬ wv.ownBlock = some G := fun e => by have := own_lo h.s.row _ e; omega
  have nR : ¬ wv.ownBlock = some R := fun e => by have := own_lo h.s.row _ e; omega
  have nlo : ∀ b, wv.ownBlock = some b → G + 1 ≤ b := fun b e => own_lo h.s.row b e
  have hz := own_only h1.z hq (fun b e hS => by have := h.zh b e; have := nlo b hS; omega)
  have hbb := own_only h1.b hq (fun b e hS => by have := h.bh b e; have := nlo b hS; omega)
  have hbe := Only.below h1.below hq h1.below.size (fun b e => by have := nlo b e; omega)
  have hs2 : OwnSS (G + 1) (w'.setCell ⟨G, 1, none⟩ v').heap.size (w'.setCell ⟨G, 1, none⟩ v') v' (us ++ [u]) (ws ++ [row]) := by
    have := hn.set (a := ⟨G, 1, none⟩) (Nat.lt_succ_self G) v'
    rwa [show (w'.setCell ⟨G, 1, none⟩ v').heap.size = w'.heap.size by simp]
  exact ⟨hbe.setCell (show w.heap.size ≤ G by omega) _, hrw, hrg, by simp; omega,
    by rw [World.cell?_setCell_other _ _ _ _ (by simp; try omega)]; exact cell_only hq h1.r0 nR, by rw [World.cell?_setCell_other _ _ _ _ (by simp; try omega)]; exact cell_only hq h1.r1 nR, by rw [World.cell?_setCell_other _ _ _ _ (by simp; try omega)]; exact cell_only hq h1.r2 nR,
    fun j => by rw [World.frozen?_setCell]; exact (frozen_only hq (show R < _ by omega) nR).trans (h1.rf j),
    by rw [World.cell?_setCell_other _ _ _ _ (by simp)]; exact cell_only hq h1.g0 nG, World.cell?_setCell_same _ _ _ (cell_only hq h1.g1 nG), by rw [World.cell?_setCell_other _ _ _ _ (by simp)]; exact cell_only hq h1.g2 nG,
    fun j => by rw [World.frozen?_setCell]; exact (frozen_only hq (show G < _ by omega) nG).trans (h1.gf j),
    own_set hz (fun k e => by have := h.zh k e; simp; omega) _, h.zh, own_set hbb (fun k e => by have := h.bh k e; simp; omega) _, h.bh, h.zb, hs2⟩

theorem BldM.own {R G : Nat} {zv bv wv : Value} {us : List Value} {zs : List Int} {ws : List (List Int)} {bs : List Int} {w wr : World} (h : BldM R G zv bv wv us zs ws bs w wr) : OwnM w.heap.size wr.heap.size wr zv wv bv us zs ws bs := by
  have hrw := h.rw
  have hrg := h.rg
  have hgs := h.gs
  exact ⟨own_base h.z (by omega), own_lt h.z, h.s.wide (by omega) (Nat.le_refl _), own_base h.b (by omega), own_lt h.b, h.zb, fun b e e' => by have := h.zh b e; have := own_lo h.s.row b e'; omega,
    fun k hk b e e' => by have := own_lo (h.s.own k hk) b e; have := h.zh b e'; omega, fun k hk b e e' => by have := own_lo (h.s.own k hk) b e; have := h.bh b e'; omega, fun b e e' => by have := h.bh b e; have := own_lo h.s.row b e'; omega⟩

def RetM2 (zs : List Int) (ws : List (List Int)) (bs : List Int) (code : Value) (w : World) (e : Ending) (w' : World) : Prop :=
  ∃ zv wv bv us, e = .returned (.tuple #[.agg #[zv, wv, bv], code]) ∧ OwnM w.heap.size w'.heap.size w' zv wv bv us zs ws bs ∧ Below w.heap.size w w'
theorem RetM2.nil {w w' : World} {c : Value} (h : Below w.heap.size w w') : RetM2 [] [] [] c w (.returned (.tuple #[.agg #[.slice none 0 0, .slice none 0 0, .slice none 0 0], c])) w' :=
  ⟨_, _, _, [], rfl, ⟨World.ownsRow_nil _ _ _ _, fun b e => (by cases e), ⟨rfl, World.ownsRow_nil _ _ _ _, fun b h => (by cases h), fun k hk => absurd hk (by simp), fun k hk => absurd hk (by simp), fun j k _ hk => absurd hk (by simp), fun k hk => absurd hk (by simp)⟩, World.ownsRow_nil _ _ _ _, fun b e => (by cases e), fun b e => (by cases e), fun b e => (by cases e), fun k hk => absurd hk (by simp), fun k hk => absurd hk (by simp), fun b e => (by cases e)⟩, h⟩
theorem OwnM.set3 {lo hi : Nat} {w : World} {zv wv bv : Value} {us : List Value} {zs : List Int} {ws : List (List Int)} {bs : List Int} (h : OwnM lo hi w zv wv bv us zs ws bs) {a : Addr} (hz : ∀ b, zv.ownBlock = some b → a.block ≠ b) (hw : ∀ b, wv.ownBlock = some b → a.block ≠ b) (hb : ∀ b, bv.ownBlock = some b → a.block ≠ b) (hu : ∀ k, k < ws.length → ∀ b, (us.getD k nv).ownBlock = some b → a.block ≠ b) (u : Value) : OwnM lo hi (w.setCell a u) zv wv bv us zs ws bs :=
  ⟨own_set h.z hz u, h.zh, ⟨h.s.len, own_set h.s.row hw u, h.s.rowh, fun k hk => own_set (h.s.own k hk) (hu k hk) u, h.s.top, h.s.dis, h.s.cd⟩, own_set h.b hb u, h.bh, h.zb, h.zc, h.zu, h.bu, h.bc⟩
theorem BldM.ownR {R G : Nat} {zv bv wv : Value} {us : List Value} {zs : List Int} {ws : List (List Int)} {bs : List Int} {w wr : World} (h : BldM R G zv bv wv us zs ws bs w wr) (u0 u1 u2 : Value) :
    OwnM w.heap.size ((((wr.setCell ⟨R, 0, none⟩ u0).setCell ⟨R, 1, none⟩ u1).setCell ⟨R, 2, none⟩ u2)).heap.size (((wr.setCell ⟨R, 0, none⟩ u0).setCell ⟨R, 1, none⟩ u1).setCell ⟨R, 2, none⟩ u2) zv wv bv us zs ws bs := by
  have hrg := h.rg
  have key : ∀ (w1 : World) (j : Nat) (u : Value), OwnM w.heap.size wr.heap.size w1 zv wv bv us zs ws bs → OwnM w.heap.size wr.heap.size (w1.setCell ⟨R, j, none⟩ u) zv wv bv us zs ws bs := fun w1 j u h1 =>
    h1.set3 (a := ⟨R, j, none⟩) (fun b e => by have := own_lo h.z b e; show R ≠ b; omega) (fun b e => by have := own_lo h.s.row b e; show R ≠ b; omega) (fun b e => by have := own_lo h.b b e; show R ≠ b; omega) (fun k hk b e => by have := own_lo (h.s.own k hk) b e; show R ≠ b; omega) u
  have := key _ 2 u2 (key _ 1 u1 (key _ 0 u0 h.own))
  simpa using this
theorem BldM.belowR {R G : Nat} {zv bv wv : Value} {us : List Value} {zs : List Int} {ws : List (List Int)} {bs : List Int} {w wr : World} (h : BldM R G zv bv wv us zs ws bs w wr) (u0 u1 u2 : Value) :
    Below w.heap.size w (((wr.setCell ⟨R, 0, none⟩ u0).setCell ⟨R, 1, none⟩ u1).setCell ⟨R, 2, none⟩ u2) :=
  ((h.below.setCell h.rw _).setCell h.rw _).setCell h.rw _

end Go.Proofs.Ytmeeibcbhjifbaa
