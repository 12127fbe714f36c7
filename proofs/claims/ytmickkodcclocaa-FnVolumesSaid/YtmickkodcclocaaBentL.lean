/- A profile that is seldom not valid is drawn. -/
import Derived.Test.YtmickkodcclocaaGE
import Derived.Test.YtmickkodcclocaaGI
import Derived.Test.YtmickkodcclocaaRgL
namespace Go.Proofs.Ytmickkodcclocaa
set_option linter.unusedVariables false
open Go.RowKit Go.Proofs.Bell Go.BigFrame

theorem rd_four {w : World} {b : Nat} {a0 a1 a2 a3 : Int} (hb : b < w.heap.size) (h0 : w.cell? ⟨b, 0, none⟩ = some (.int .i64 a0)) (h1 : w.cell? ⟨b, 1, none⟩ = some (.int .i64 a1)) (h2 : w.cell? ⟨b, 2, none⟩ = some (.int .i64 a2)) (h3 : w.cell? ⟨b, 3, none⟩ = some (.int .i64 a3)) :
    Rd w (.slice (some ⟨b, 0, none⟩) 4 4) 4 (ints [a0, a1, a2, a3]) := by
  refine ⟨by decide, .inr ⟨by decide, b, 0, 4, rfl, by decide, by decide, hb, fun j u hj => ?_⟩⟩
  match j, hj with
  | 0, hj => simp [ints] at hj; subst hj; simpa using h0
  | 1, hj => simp [ints] at hj; subst hj; simpa using h1
  | 2, hj => simp [ints] at hj; subst hj; simpa using h2
  | 3, hj => simp [ints] at hj; subst hj; simpa using h3
  | n + 4, hj => simp [ints] at hj
theorem among4_c (A g b : Nat) (a0 a1 a2 a3 : Int) (w : World) (h : Src A g w) (hA : A ≤ 100000000000) (hne : b ≠ g) (h0 : w.cell? ⟨b, 0, none⟩ = some (.int .i64 a0)) (h1 : w.cell? ⟨b, 1, none⟩ = some (.int .i64 a1)) (h2 : w.cell? ⟨b, 2, none⟩ = some (.int .i64 a2)) (h3 : w.cell? ⟨b, 3, none⟩ = some (.int .i64 a3)) :
    Calls Try.prog 191 #[.pointer (some ⟨g, 0, none⟩), .slice (some ⟨b, 0, none⟩) 4 4] w (RetOf [a0, a1, a2, a3] (A + 2) g w) :=
  among_c A g _ [a0, a1, a2, a3] w h hA (rd_four (World.block_lt_of_cell? _ _ h0) h0 h1 h2 h3) (by simp) (by simp) (fun q e => by simp [Value.ownBlock] at e; omega)

/-- the state: the result's box R, the profile's box G -/
structure BtSt (R G g A : Nat) (nm : ByteArray) (u : Value) (qs : List (Int × Int × Int)) (w wr : World) : Prop where
  only : Only (fun b => b = g) w wr
  gw : g < w.heap.size
  rw : w.heap.size ≤ R
  rg : R < G
  gs : G < wr.heap.size
  r0 : wr.cell? ⟨R, 0, none⟩ = some (.string ⟨#[]⟩)
  r1 : wr.cell? ⟨R, 1, none⟩ = some (.slice none 0 0)
  rf : ∀ j, wr.frozen? ⟨R, j, none⟩ = false
  q0 : wr.cell? ⟨G, 0, none⟩ = some (.string nm)
  q1 : wr.cell? ⟨G, 1, none⟩ = some u
  qf : ∀ j, wr.frozen? ⟨G, j, none⟩ = false
  own : OwnR (R + 1) wr u qs
  ng : ∀ b, u.ownBlock = some b → b ≠ G
  src : Src A g wr
theorem BtSt.go {R G g A B : Nat} {nm : ByteArray} {u : Value} {qs : List (Int × Int × Int)} {w wr w1 : World} (h : BtSt R G g A nm u qs w wr) (hq : Only (fun b => b = g) wr w1) (hs : Src B g w1) : BtSt R G g B nm u qs w w1 := by
  have h1 := h.gw; have h2 := h.rw; have h3 := h.rg; have h4 := h.gs
  exact ⟨h.only.trans hq, h1, h2, h3, Nat.lt_of_lt_of_le h4 hq.size, cell_only hq h.r0 (by show ¬ R = g; omega), cell_only hq h.r1 (by show ¬ R = g; omega), fun j => (frozen_only hq (show R < _ by omega) (by show ¬ R = g; omega)).trans (h.rf j),
    cell_only hq h.q0 (by show ¬ G = g; omega), cell_only hq h.q1 (by show ¬ G = g; omega), fun j => (frozen_only hq (show G < _ by omega) (by show ¬ G = g; omega)).trans (h.qf j), own_only h.own hq (fun k hk e => by have := own_lo h.own k hk; omega), h.ng, hs⟩
theorem BtSt.later {R G g A : Nat} {nm : ByteArray} {u : Value} {qs : List (Int × Int × Int)} {w wr w1 : World} (h : BtSt R G g A nm u qs w wr) (hb : Below wr.heap.size wr w1) : BtSt R G g A nm u qs w w1 := h.go (Only.of_below hb) (h.src.later hb)
/-- its rings are others now -/
theorem BtSt.rings {R G g A : Nat} {nm : ByteArray} {u v : Value} {qs qs' : List (Int × Int × Int)} {w wr w1 : World} (h : BtSt R G g A nm u qs w wr) (hq : Only (fun b => u.ownBlock = some b) wr w1) (ho : OwnR (R + 1) w1 v qs') (hv : ∀ b, v.ownBlock = some b → b ≠ G) : BtSt R G g A nm v qs' w (w1.setCell ⟨G, 1, none⟩ v) := by
  have h1 := h.gw; have h2 := h.rw; have h3 := h.rg; have h4 := h.gs
  have lo := own_lo h.own
  have sz := hq.size
  have nR : ¬ u.ownBlock = some R := fun e => by have := lo _ e; omega
  have nG : ¬ u.ownBlock = some G := fun e => h.ng _ e rfl
  have hsr : Src A g w1 := h.src.keep hq (fun b e => by have := lo b e; omega)
  exact ⟨⟨hq.os.trans h.only.os, hq.tape.trans h.only.tape, hq.output.trans h.only.output, by have := h.only.size; simp; omega, fun k hk hn => (Below.heap_setCell _ _ _ _ (by show k ≠ G; omega)).trans ((hq.block k (by have := h.only.size; omega) (fun e => by have := lo k e; omega)).trans (h.only.block k hk hn))⟩, h1, h2, h3, by simp; omega,
    by rw [World.cell?_setCell_other _ _ _ _ (by simp; try omega)]; exact cell_only hq h.r0 nR, by rw [World.cell?_setCell_other _ _ _ _ (by simp; try omega)]; exact cell_only hq h.r1 nR, fun j => by rw [World.frozen?_setCell]; exact (frozen_only hq (show R < _ by omega) nR).trans (h.rf j),
    by rw [World.cell?_setCell_other _ _ _ _ (by simp)]; exact cell_only hq h.q0 nG, World.cell?_setCell_same _ _ _ (cell_only hq h.q1 nG), fun j => by rw [World.frozen?_setCell]; exact (frozen_only hq (show G < _ by omega) nG).trans (h.qf j),
    own_set ho (fun k hk => by have := hv k hk; show G ≠ k; omega) v, hv, hsr.keep ((Only.refl (fun b => b = G) w1).setCell (p := ⟨G, 1, none⟩) rfl v) (fun b e => by omega)⟩
/-- one number of a ring is another now -/
theorem BtSt.put {R G g A : Nat} {nm : ByteArray} {ao : Option Addr} {cap gu : Nat} {qs qs' : List (Int × Int × Int)} {w wr : World} (h : BtSt R G g A nm (.slice ao qs.length cap) qs w wr) (hao : ao = some ⟨gu, 0, none⟩) (j : Nat) (x : Value) (hl : qs'.length = qs.length) (ht : (trips qs).set j x = trips qs') : BtSt R G g A nm (.slice ao qs.length cap) qs' w (wr.setCell ⟨gu, j, none⟩ x) := by
  subst hao
  have h1 := h.gw; have h2 := h.rw; have h3 := h.rg; have h4 := h.gs
  have lo := own_lo h.own gu rfl
  have ng := h.ng gu rfl
  have hst := (World.ownsRow.stored h.own j x).1
  exact ⟨⟨h.only.os, h.only.tape, h.only.output, by simpa using h.only.size, fun k hk hn => (Below.heap_setCell _ _ _ _ (by show k ≠ gu; omega)).trans (h.only.block k hk hn)⟩, h1, h2, h3, by simpa using h4,
    by rw [World.cell?_setCell_other _ _ _ _ (by simp; try omega)]; exact h.r0, by rw [World.cell?_setCell_other _ _ _ _ (by simp; try omega)]; exact h.r1, fun q => by rw [World.frozen?_setCell]; exact h.rf q,
    by rw [World.cell?_setCell_other _ _ _ _ (by simp; try omega)]; exact h.q0, by rw [World.cell?_setCell_other _ _ _ _ (by simp; try omega)]; exact h.q1, fun q => by rw [World.frozen?_setCell]; exact h.qf q,
    by unfold OwnR; rw [hl, ← ht]; exact hst, h.ng, h.src.keep ((Only.refl (fun b => b = gu) wr).setCell (p := ⟨gu, j, none⟩) rfl x) (fun b e => by omega)⟩
/-- its name is another now -/
theorem BtSt.name {R G g A : Nat} {nm nm' : ByteArray} {u : Value} {qs : List (Int × Int × Int)} {w wr : World} (h : BtSt R G g A nm u qs w wr) : BtSt R G g A nm' u qs w (wr.setCell ⟨G, 0, none⟩ (.string nm')) := by
  have h1 := h.gw; have h2 := h.rw; have h3 := h.rg; have h4 := h.gs
  exact ⟨⟨h.only.os, h.only.tape, h.only.output, by simpa using h.only.size, fun k hk hn => (Below.heap_setCell _ _ _ _ (by show k ≠ G; omega)).trans (h.only.block k hk hn)⟩, h1, h2, h3, by simpa using h4,
    by rw [World.cell?_setCell_other _ _ _ _ (by simp; try omega)]; exact h.r0, by rw [World.cell?_setCell_other _ _ _ _ (by simp; try omega)]; exact h.r1, fun q => by rw [World.frozen?_setCell]; exact h.rf q,
    World.cell?_setCell_same _ _ _ h.q0, by rw [World.cell?_setCell_other _ _ _ _ (by simp)]; exact h.q1, fun q => by rw [World.frozen?_setCell]; exact h.qf q,
    own_set h.own (fun k hk => by have := h.ng k hk; show G ≠ k; omega) _, h.ng, h.src.keep ((Only.refl (fun b => b = G) wr).setCell (p := ⟨G, 0, none⟩) rfl _) (fun b e => by omega)⟩

def RetBt (A g : Nat) (w : World) (e : Ending) (w' : World) : Prop := ∃ (nm : ByteArray) (rs : List (Int × Int × Int)) (u : Value), e = .returned (.agg #[.string nm, u]) ∧ OwnR w.heap.size w' u rs ∧ nm.size ≤ maxLen ∧ rs.length ≤ 100 ∧ Src A g w' ∧ Only (fun b => b = g) w w'
theorem BtSt.fin {R G g A : Nat} {nm : ByteArray} {u : Value} {qs : List (Int × Int × Int)} {w wr : World} (h : BtSt R G g A nm u qs w wr) (hnm : nm.size ≤ maxLen) (hl : qs.length ≤ 100) : RetBt A g w (.returned (.agg #[.string nm, u])) ((wr.setCell ⟨R, 0, none⟩ (.string nm)).setCell ⟨R, 1, none⟩ u) := by
  have h1 := h.gw; have h2 := h.rw; have h3 := h.rg; have h4 := h.gs
  have key : ∀ (wq : World) j v, Src A g wq → Only (fun b => b = g) w wq → Src A g (wq.setCell ⟨R, j, none⟩ v) ∧ Only (fun b => b = g) w (wq.setCell ⟨R, j, none⟩ v) := fun wq j v a1 a2 =>
    ⟨a1.keep ((Only.refl (fun b => b = R) wq).setCell (p := ⟨R, j, none⟩) rfl v) (fun b e => by omega), a2.os, a2.tape, a2.output, by simpa using a2.size, fun k hk hn => (Below.heap_setCell _ _ _ _ (by show k ≠ R; omega)).trans (a2.block k hk hn)⟩
  have e1 := key wr 0 (.string nm) h.src h.only
  have e2 := key _ 1 u e1.1 e1.2
  have o11 := own_set h.own (a := ⟨R, 0, none⟩) (fun k hk => by have := own_lo h.own k hk; show R ≠ k; omega) (.string nm)
  have o12 := own_set o11 (a := ⟨R, 1, none⟩) (fun k hk => by have := own_lo h.own k hk; show R ≠ k; omega) u
  exact ⟨nm, qs, u, rfl, own_base o12 (by omega), hnm, hl, e2.1, e2.2⟩

theorem trips_put2 : ∀ (qs : List (Int × Int × Int)) (k : Nat) (z : Int), k < qs.length → (trips qs).set (k * 3 + 2) (.int .i64 z) = trips (qs.set k ((rg qs k).1, (rg qs k).2.1, z))
  | [], k, z, h => by simp at h
  | q :: qs, 0, z, h => by simp [trips, rg, List.getD]
  | q :: qs, k + 1, z, h => by
    have e : rg (q :: qs) (k + 1) = rg qs k := by simp [rg, List.getD]
    have ts : ∀ (p : Int × Int × Int) ps, trips (p :: ps) = .int .i64 p.1 :: .int .i64 p.2.1 :: .int .i64 p.2.2 :: trips ps := fun p ps => rfl
    rw [show (k + 1) * 3 + 2 = (k * 3 + 2) + 1 + 1 + 1 by omega, ts, List.set_cons_succ, List.set_cons_succ, List.set_cons_succ, trips_put2 qs k z (by simpa using h), List.set_cons_succ, ts, e]

def nms13 : List ByteArray := [⟨#[97]⟩, ⟨#[98]⟩, ⟨#[99]⟩, ⟨#[98, 101, 108, 108]⟩, ⟨#[116, 101, 110, 111, 114, 55]⟩, ⟨#[104, 117, 109]⟩, ⟨#[120, 57]⟩, ⟨#[97, 98, 99, 100, 101, 102, 103, 104, 105, 106]⟩, ⟨#[97, 98, 99, 100, 101, 102, 103, 104, 105, 106, 107]⟩, ⟨#[65]⟩, ⟨#[]⟩, ⟨#[49, 97]⟩, ⟨#[97, 45, 98]⟩]
theorem nms13_sz : ∀ nm ∈ nms13, nm.size ≤ 20 := by decide
def RetNm (A g : Nat) (w : World) (e : Ending) (w' : World) : Prop := ∃ r : ByteArray, e = .returned (.string r) ∧ r.size ≤ maxLen ∧ Src A g w' ∧ Only (fun b => b = g) w w'
set_option maxRecDepth 100000 in
theorem drawName_c (A g : Nat) (w : World) (h : Src A g w) (hA : A ≤ 10000000000) : Calls Try.prog 192 #[.pointer (some ⟨g, 0, none⟩)] w (RetNm (A + 2) g w) := by
  have hl := h.lt
  have htx := fun w' b (hx : Src A g w') hc hne => text_c A g b nms13 w' hx (by omega) (by decide) (by decide) hc hne
  rw [show nms13.length = 13 from rfl] at htx
  have HTX := Lib.hid htx; clear htx
  have H := Lib.hid h; clear h
  go_enter Try.func192, Try.ntmps192
  go_wp2_with fail
  refine (HTX.out _ w.heap.size (H.out.later (by go_grown)) ?hc (by omega)).mono ?_
  case hc =>
    intro k hk
    match k, hk with
    | 0, _ => simp [go_sem]; rfl
    | 1, _ => simp [go_sem]; rfl
    | 2, _ => simp [go_sem]; rfl
    | 3, _ => simp [go_sem]; rfl
    | 4, _ => simp [go_sem]; rfl
    | 5, _ => simp [go_sem]; rfl
    | 6, _ => simp [go_sem]; rfl
    | 7, _ => simp [go_sem]; rfl
    | 8, _ => simp [go_sem]; rfl
    | 9, _ => simp [go_sem]; rfl
    | 10, _ => simp [go_sem]; rfl
    | 11, _ => simp [go_sem]; rfl
    | 12, _ => simp [go_sem]; rfl
  rintro _ w1 ⟨nm, rfl, hm, k1, q1⟩
  have hsz := nms13_sz nm hm
  have hq := (Only.of_below (S := fun b => b = g) (show Below w.heap.size w _ by go_grown)).trans q1
  have K1 := Lib.hid k1; clear k1
  have HQ := Lib.hid hq; clear hq
  clear q1 hm
  go_wp2
  go_returns
  exact ⟨nm, rfl, by unfold maxLen; omega, K1.out, HQ.out⟩

/-- a ring is appended -/
theorem BtSt.app {R G g A : Nat} {nm : ByteArray} {u v : Value} {qs qs' : List (Int × Int × Int)} {w wr W w1 : World} (h : BtSt R G g A nm u qs w wr) (hb : Below wr.heap.size wr W) (hq : Only (fun b => u.ownBlock = some b) W w1) (ho : OwnR (R + 1) w1 v qs') (hn : 0 < qs'.length) :
    BtSt R G g A nm v qs' w (w1.setCell ⟨G, 1, none⟩ v) ∧ w1.cell? ⟨G, 1, none⟩ = some u ∧ (∀ j, w1.frozen? ⟨G, j, none⟩ = false) := by
  have h' := h.later hb
  have hg4 := h'.gs
  have n2 : ¬ u.ownBlock = some G := fun e => h'.ng _ e rfl
  have c0 : w1.cell? ⟨G, 0, none⟩ = some (.string nm) := cell_only hq h'.q0 n2
  refine ⟨h'.rings hq ho (fun b e eb => ?_), cell_only hq h'.q1 n2, fun j => (frozen_only hq (show G < _ from hg4) n2).trans (h'.qf j)⟩
  subst eb
  obtain ⟨ao, cp, gv, hv, hav, hov⟩ := own_open ho
  subst hv
  have e2 := hov hn
  rw [e2] at e
  cases e
  obtain rfl := hav hn
  have c1 := World.ownsRow.cellAt ho 0 (by omega)
  rw [c0, (show (trips qs')[0]? = _ from (trips_at (ps := qs') (k := 0) hn).1)] at c1
  cases c1

end Go.Proofs.Ytmickkodcclocaa
