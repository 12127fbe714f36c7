/- Several texts of the proofs in one: RgL, BentL, Bent, CentD. -/
import Derived.Test.YtgdadbmhdljcdaaGreatDoorGE
import Derived.Test.YtgdadbmhdljcdaaGreatDoorGI
/- Rings one by one. -/
namespace Go.Proofs.YtgdadbmhdljcdaaGreatDoor
set_option linter.unusedVariables false
open Go.RowKit Go.Proofs.Bell Go.BigFrame

theorem rg_ext {xs ys : List (Int × Int × Int)} (h : xs.length = ys.length) (hk : ∀ k, k < ys.length → rg xs k = rg ys k) : xs = ys := by
  refine List.ext_getElem h fun k h1 h2 => ?_
  have := hk k h2
  rwa [rg_eq h1, rg_eq h2] at this
theorem rg_snoc {rs : List (Int × Int × Int)} (x : Int × Int × Int) {k : Nat} (h : k < rs.length) : rg (rs ++ [x]) k = rg rs k := by simp [rg, List.getD, List.getElem?_append_left h]
theorem rg_end (rs : List (Int × Int × Int)) (x : Int × Int × Int) : rg (rs ++ [x]) rs.length = x := by simp [rg, List.getD]
theorem mapK_rg (T : Nat → Int × Int × Int → Int × Int × Int) (ps : List (Int × Int × Int)) : ∀ n k, k < n → rg (mapK T ps n) k = T k (rg ps k)
  | 0, k, h => by omega
  | n + 1, k, h => by
    rw [mapK]
    have hl := mapK_len T ps n
    rcases Nat.lt_or_ge k n with h1 | h1
    · rw [rg_snoc _ (by omega)]; exact mapK_rg T ps n k h1
    · obtain rfl : k = n := by omega
      have := rg_end (mapK T ps k) (T k (rg ps k))
      rwa [hl] at this
theorem mapK_id {T : Nat → Int × Int × Int → Int × Int × Int} {ps : List (Int × Int × Int)} (h : ∀ k, k < ps.length → T k (rg ps k) = rg ps k) : mapK T ps ps.length = ps :=
  rg_ext (mapK_len _ _ _) fun k hk => by rw [mapK_rg _ _ _ _ hk, h k hk]
theorem mapK_h {T : Nat → Int × Int × Int → Int × Int × Int} {ps : List (Int × Int × Int)} (h : ∀ k, k < ps.length → (T k (rg ps k)).2.2 = (rg ps k).2.2) : heightI (mapK T ps ps.length) = heightI ps := by
  unfold heightI
  congr 1
  have hl := mapK_len T ps ps.length
  refine List.ext_getElem (by simp [hl]) fun k h1 h2 => ?_
  simp only [List.length_map] at h1 h2
  rw [List.getElem_map, List.getElem_map, ← rg_eq h1, ← rg_eq h2, mapK_rg _ _ _ _ h2, h k h2]
theorem profB_iff (nm : ByteArray) (rs : List (Int × Int × Int)) : profB nm rs = true ↔ nameB nm = true ∧ 1 ≤ rs.length ∧ rs.length ≤ 32 ∧ (∀ k, k < rs.length → ringT (rg rs k) = true) ∧ (∀ k, k < rs.length → joinAt rs k = true) ∧ heightI rs ≤ 300000 := by
  unfold profB
  rw [← all_rg rs ringT]
  simp only [Bool.and_eq_true, decide_eq_true_eq, List.all_eq_true, List.mem_range]
  constructor
  · rintro ⟨⟨⟨⟨⟨a, b⟩, c⟩, d⟩, e⟩, f⟩; exact ⟨a, b, c, d, e, f⟩
  · rintro ⟨a, b, c, d, e, f⟩; exact ⟨⟨⟨⟨⟨a, b⟩, c⟩, d⟩, e⟩, f⟩

end Go.Proofs.YtgdadbmhdljcdaaGreatDoor

/- A profile that is seldom not valid is drawn. -/
namespace Go.Proofs.YtgdadbmhdljcdaaGreatDoor
set_option linter.unusedVariables false
open Go.RowKit Go.Proofs.Bell Go.BigFrame

theorem rd_four {w : World} {b : Nat} {a0 a1 a2 a3 : Int} (hb : b < w.heap.size) (h0 : w.cell? ⟨b, 0, none⟩ = some (.int .i64 a0)) (h1 : w.cell? ⟨b, 1, none⟩ = some (.int .i64 a1)) (h2 : w.cell? ⟨b, 2, none⟩ = some (.int .i64 a2)) (h3 : w.cell? ⟨b, 3, none⟩ = some (.int .i64 a3)) :
    Rd w (.slice (some ⟨b, 0, none⟩) 4 4) 4 (ints [a0, a1, a2, a3]) := by
  refine ⟨by decide, .inr ⟨by decide, b, 0, 4, rfl, by decide, by decide, hb, fun j u hj => ?_⟩⟩
  match j, hj with
  | 0, hj => simp [ints] at hj; subst hj; simpa using h0
  | 1, hj => simp [ints] at hj; subst hj; simpa using h1
  | 2, hj => simp [ints] at hj; subst hj; simpa using h2
  | 3, hj => simp [ints] at hj; subst hj; simpa using h3
  | n + 4, hj => simp [ints] at hj
theorem among4_c (A g b : Nat) (a0 a1 a2 a3 : Int) (w : World) (h : Src A g w) (hA : A ≤ 100000000000) (hne : b ≠ g) (h0 : w.cell? ⟨b, 0, none⟩ = some (.int .i64 a0)) (h1 : w.cell? ⟨b, 1, none⟩ = some (.int .i64 a1)) (h2 : w.cell? ⟨b, 2, none⟩ = some (.int .i64 a2)) (h3 : w.cell? ⟨b, 3, none⟩ = some (.int .i64 a3)) :
    Calls Tryz.prog 82 #[.pointer (some ⟨g, 0, none⟩), .slice (some ⟨b, 0, none⟩) 4 4] w (RetOf [a0, a1, a2, a3] (A + 2) g w) :=
  among_c A g _ [a0, a1, a2, a3] w h hA (rd_four (World.block_lt_of_cell? _ _ h0) h0 h1 h2 h3) (by simp) (by simp) (fun q e => by simp [Value.ownBlock] at e; omega)

/-- the state: the result's box R, the profile's box G -/
structure BtSt (R G g A : Nat) (nm : ByteArray) (u : Value) (qs : List (Int × Int × Int)) (w wr : World) : Prop where
  only : Only (fun b => b = g) w wr
  gw : g < w.heap.size
  rw : w.heap.size ≤ R
  rg : R < G
  gs : G < wr.heap.size
  r0 : wr.cell? ⟨R, 0, none⟩ = some (.string ⟨#[]⟩)
  r1 : wr.cell? ⟨R, 1, none⟩ = some (.slice none 0 0)
  rf : ∀ j, wr.frozen? ⟨R, j, none⟩ = false
  q0 : wr.cell? ⟨G, 0, none⟩ = some (.string nm)
  q1 : wr.cell? ⟨G, 1, none⟩ = some u
  qf : ∀ j, wr.frozen? ⟨G, j, none⟩ = false
  own : OwnR (R + 1) wr u qs
  ng : ∀ b, u.ownBlock = some b → b ≠ G
  src : Src A g wr
theorem BtSt.go {R G g A B : Nat} {nm : ByteArray} {u : Value} {qs : List (Int × Int × Int)} {w wr w1 : World} (h : BtSt R G g A nm u qs w wr) (hq : Only (fun b => b = g) wr w1) (hs : Src B g w1) : BtSt R G g B nm u qs w w1 := by
  have h1 := h.gw; have h2 := h.rw; have h3 := h.rg; have h4 := h.gs
  exact ⟨h.only.trans hq, h1, h2, h3, Nat.lt_of_lt_of_le h4 hq.size, cell_only hq h.r0 (by show ¬ R = g; omega), cell_only hq h.r1 (by show ¬ R = g; omega), fun j => (frozen_only hq (show R < _ by omega) (by show ¬ R = g; omega)).trans (h.rf j),
    cell_only hq h.q0 (by show ¬ G = g; omega), cell_only hq h.q1 (by show ¬ G = g; omega), fun j => (frozen_only hq (show G < _ by omega) (by show ¬ G = g; omega)).trans (h.qf j), own_only h.own hq (fun k hk e => by have := own_lo h.own k hk; omega), h.ng, hs⟩
theorem BtSt.later {R G g A : Nat} {nm : ByteArray} {u : Value} {qs : List (Int × Int × Int)} {w wr w1 : World} (h : BtSt R G g A nm u qs w wr) (hb : Below wr.heap.size wr w1) : BtSt R G g A nm u qs w w1 := h.go (Only.of_below hb) (h.src.later hb)
/-- its rings are others now -/
theorem BtSt.rings {R G g A : Nat} {nm : ByteArray} {u v : Value} {qs qs' : List (Int × Int × Int)} {w wr w1 : World} (h : BtSt R G g A nm u qs w wr) (hq : Only (fun b => u.ownBlock = some b) wr w1) (ho : OwnR (R + 1) w1 v qs') (hv : ∀ b, v.ownBlock = some b → b ≠ G) : BtSt R G g A nm v qs' w (w1.setCell ⟨G, 1, none⟩ v) := by
  have h1 := h.gw; have h2 := h.rw; have h3 := h.rg; have h4 := h.gs
  have lo := own_lo h.own
  have sz := hq.size
  have nR : ¬ u.ownBlock = some R := fun e => by have := lo _ e; omega
  have nG : ¬ u.ownBlock = some G := fun e => h.ng _ e rfl
  have hsr : Src A g w1 := h.src.keep hq (fun b e => by have := lo b e; omega)
  exact ⟨⟨hq.os.trans h.only.os, hq.tape.trans h.only.tape, hq.output.trans h.only.output, by have := h.only.size; simp; omega, fun k hk hn => (Below.heap_setCell _ _ _ _ (by show k ≠ G; omega)).trans ((hq.block k (by have := h.only.size; omega) (fun e => by have := lo k e; omega)).trans (h.only.block k hk hn))⟩, h1, h2, h3, by simp; omega,
    by rw [World.cell?_setCell_other _ _ _ _ (by simp; try omega)]; exact cell_only hq h.r0 nR, by rw [World.cell?_setCell_other _ _ _ _ (by simp; try omega)]; exact cell_only hq h.r1 nR, fun j => by rw [World.frozen?_setCell]; exact (frozen_only hq (show R < _ by omega) nR).trans (h.rf j),
    by rw [World.cell?_setCell_other _ _ _ _ (by simp)]; exact cell_only hq h.q0 nG, World.cell?_setCell_same _ _ _ (cell_only hq h.q1 nG), fun j => by rw [World.frozen?_setCell]; exact (frozen_only hq (show G < _ by omega) nG).trans (h.qf j),
    own_set ho (fun k hk => by have := hv k hk; show G ≠ k; omega) v, hv, hsr.keep ((Only.refl (fun b => b = G) w1).setCell (p := ⟨G, 1, none⟩) rfl v) (fun b e => by omega)⟩
/-- one number of a ring is another now -/
theorem BtSt.put {R G g A : Nat} {nm : ByteArray} {ao : Option Addr} {cap gu : Nat} {qs qs' : List (Int × Int × Int)} {w wr : World} (h : BtSt R G g A nm (.slice ao qs.length cap) qs w wr) (hao : ao = some ⟨gu, 0, none⟩) (j : Nat) (x : Value) (hl : qs'.length = qs.length) (ht : (trips qs).set j x = trips qs') : BtSt R G g A nm (.slice ao qs.length cap) qs' w (wr.setCell ⟨gu, j, none⟩ x) := by
  subst hao
  have h1 := h.gw; have h2 := h.rw; have h3 := h.rg; have h4 := h.gs
  have lo := own_lo h.own gu rfl
  have ng := h.ng gu rfl
  have hst := (World.ownsRow.stored h.own j x).1
  exact ⟨⟨h.only.os, h.only.tape, h.only.output, by simpa using h.only.size, fun k hk hn => (Below.heap_setCell _ _ _ _ (by show k ≠ gu; omega)).trans (h.only.block k hk hn)⟩, h1, h2, h3, by simpa using h4,
    by rw [World.cell?_setCell_other _ _ _ _ (by simp; try omega)]; exact h.r0, by rw [World.cell?_setCell_other _ _ _ _ (by simp; try omega)]; exact h.r1, fun q => by rw [World.frozen?_setCell]; exact h.rf q,
    by rw [World.cell?_setCell_other _ _ _ _ (by simp; try omega)]; exact h.q0, by rw [World.cell?_setCell_other _ _ _ _ (by simp; try omega)]; exact h.q1, fun q => by rw [World.frozen?_setCell]; exact h.qf q,
    by unfold OwnR; rw [hl, ← ht]; exact hst, h.ng, h.src.keep ((Only.refl (fun b => b = gu) wr).setCell (p := ⟨gu, j, none⟩) rfl x) (fun b e => by omega)⟩
/-- its name is another now -/
theorem BtSt.name {R G g A : Nat} {nm nm' : ByteArray} {u : Value} {qs : List (Int × Int × Int)} {w wr : World} (h : BtSt R G g A nm u qs w wr) : BtSt R G g A nm' u qs w (wr.setCell ⟨G, 0, none⟩ (.string nm')) := by
  have h1 := h.gw; have h2 := h.rw; have h3 := h.rg; have h4 := h.gs
  exact ⟨⟨h.only.os, h.only.tape, h.only.output, by simpa using h.only.size, fun k hk hn => (Below.heap_setCell _ _ _ _ (by show k ≠ G; omega)).trans (h.only.block k hk hn)⟩, h1, h2, h3, by simpa using h4,
    by rw [World.cell?_setCell_other _ _ _ _ (by simp; try omega)]; exact h.r0, by rw [World.cell?_setCell_other _ _ _ _ (by simp; try omega)]; exact h.r1, fun q => by rw [World.frozen?_setCell]; exact h.rf q,
    World.cell?_setCell_same _ _ _ h.q0, by rw [World.cell?_setCell_other _ _ _ _ (by simp)]; exact h.q1, fun q => by rw [World.frozen?_setCell]; exact h.qf q,
    own_set h.own (fun k hk => by have := h.ng k hk; show G ≠ k; omega) _, h.ng, h.src.keep ((Only.refl (fun b => b = G) wr).setCell (p := ⟨G, 0, none⟩) rfl _) (fun b e => by omega)⟩

def RetBt (A g : Nat) (w : World) (e : Ending) (w' : World) : Prop := ∃ (nm : ByteArray) (rs : List (Int × Int × Int)) (u : Value), e = .returned (.agg #[.string nm, u]) ∧ OwnR w.heap.size w' u rs ∧ nm.size ≤ maxLen ∧ rs.length ≤ 100 ∧ Src A g w' ∧ Only (fun b => b = g) w w'
theorem BtSt.fin {R G g A : Nat} {nm : ByteArray} {u : Value} {qs : List (Int × Int × Int)} {w wr : World} (h : BtSt R G g A nm u qs w wr) (hnm : nm.size ≤ maxLen) (hl : qs.length ≤ 100) : RetBt A g w (.returned (.agg #[.string nm, u])) ((wr.setCell ⟨R, 0, none⟩ (.string nm)).setCell ⟨R, 1, none⟩ u) := by
  have h1 := h.gw; have h2 := h.rw; have h3 := h.rg; have h4 := h.gs
  have key : ∀ (wq : World) j v, Src A g wq → Only (fun b => b = g) w wq → Src A g (wq.setCell ⟨R, j, none⟩ v) ∧ Only (fun b => b = g) w (wq.setCell ⟨R, j, none⟩ v) := fun wq j v a1 a2 =>
    ⟨a1.keep ((Only.refl (fun b => b = R) wq).setCell (p := ⟨R, j, none⟩) rfl v) (fun b e => by omega), a2.os, a2.tape, a2.output, by simpa using a2.size, fun k hk hn => (Below.heap_setCell _ _ _ _ (by show k ≠ R; omega)).trans (a2.block k hk hn)⟩
  have e1 := key wr 0 (.string nm) h.src h.only
  have e2 := key _ 1 u e1.1 e1.2
  have o11 := own_set h.own (a := ⟨R, 0, none⟩) (fun k hk => by have := own_lo h.own k hk; show R ≠ k; omega) (.string nm)
  have o12 := own_set o11 (a := ⟨R, 1, none⟩) (fun k hk => by have := own_lo h.own k hk; show R ≠ k; omega) u
  exact ⟨nm, qs, u, rfl, own_base o12 (by omega), hnm, hl, e2.1, e2.2⟩

theorem trips_put2 : ∀ (qs : List (Int × Int × Int)) (k : Nat) (z : Int), k < qs.length → (trips qs).set (k * 3 + 2) (.int .i64 z) = trips (qs.set k ((rg qs k).1, (rg qs k).2.1, z))
  | [], k, z, h => by simp at h
  | q :: qs, 0, z, h => by simp [trips, rg, List.getD]
  | q :: qs, k + 1, z, h => by
    have e : rg (q :: qs) (k + 1) = rg qs k := by simp [rg, List.getD]
    have ts : ∀ (p : Int × Int × Int) ps, trips (p :: ps) = .int .i64 p.1 :: .int .i64 p.2.1 :: .int .i64 p.2.2 :: trips ps := fun p ps => rfl
    rw [show (k + 1) * 3 + 2 = (k * 3 + 2) + 1 + 1 + 1 by omega, ts, List.set_cons_succ, List.set_cons_succ, List.set_cons_succ, trips_put2 qs k z (by simpa using h), List.set_cons_succ, ts, e]

def nms13 : List ByteArray := [⟨#[97]⟩, ⟨#[98]⟩, ⟨#[99]⟩, ⟨#[98, 101, 108, 108]⟩, ⟨#[116, 101, 110, 111, 114, 55]⟩, ⟨#[104, 117, 109]⟩, ⟨#[120, 57]⟩, ⟨#[97, 98, 99, 100, 101, 102, 103, 104, 105, 106]⟩, ⟨#[97, 98, 99, 100, 101, 102, 103, 104, 105, 106, 107]⟩, ⟨#[65]⟩, ⟨#[]⟩, ⟨#[49, 97]⟩, ⟨#[97, 45, 98]⟩]
theorem nms13_sz : ∀ nm ∈ nms13, nm.size ≤ 20 := by decide
def RetNm (A g : Nat) (w : World) (e : Ending) (w' : World) : Prop := ∃ r : ByteArray, e = .returned (.string r) ∧ r.size ≤ maxLen ∧ Src A g w' ∧ Only (fun b => b = g) w w'
set_option maxRecDepth 100000 in
theorem drawName_c (A g : Nat) (w : World) (h : Src A g w) (hA : A ≤ 10000000000) : Calls Tryz.prog 150 #[.pointer (some ⟨g, 0, none⟩)] w (RetNm (A + 2) g w) := by
  have hl := h.lt
  have htx := fun w' b (hx : Src A g w') hc hne => text_c A g b nms13 w' hx (by omega) (by decide) (by decide) hc hne
  rw [show nms13.length = 13 from rfl] at htx
  have HTX := Lib.hid htx; clear htx
  have H := Lib.hid h; clear h
  go_enter Tryz.func150, Tryz.ntmps150
  go_wp2_with fail
  refine (HTX.out _ w.heap.size (H.out.later (by go_grown)) ?hc (by omega)).mono ?_
  case hc =>
    intro k hk
    match k, hk with
    | 0, _ => simp [go_sem]; rfl
    | 1, _ => simp [go_sem]; rfl
    | 2, _ => simp [go_sem]; rfl
    | 3, _ => simp [go_sem]; rfl
    | 4, _ => simp [go_sem]; rfl
    | 5, _ => simp [go_sem]; rfl
    | 6, _ => simp [go_sem]; rfl
    | 7, _ => simp [go_sem]; rfl
    | 8, _ => simp [go_sem]; rfl
    | 9, _ => simp [go_sem]; rfl
    | 10, _ => simp [go_sem]; rfl
    | 11, _ => simp [go_sem]; rfl
    | 12, _ => simp [go_sem]; rfl
  rintro _ w1 ⟨nm, rfl, hm, k1, q1⟩
  have hsz := nms13_sz nm hm
  have hq := (Only.of_below (S := fun b => b = g) (show Below w.heap.size w _ by go_grown)).trans q1
  have K1 := Lib.hid k1; clear k1
  have HQ := Lib.hid hq; clear hq
  clear q1 hm
  go_wp2
  go_returns
  exact ⟨nm, rfl, by unfold maxLen; omega, K1.out, HQ.out⟩

/-- a ring is appended -/
theorem BtSt.app {R G g A : Nat} {nm : ByteArray} {u v : Value} {qs qs' : List (Int × Int × Int)} {w wr W w1 : World} (h : BtSt R G g A nm u qs w wr) (hb : Below wr.heap.size wr W) (hq : Only (fun b => u.ownBlock = some b) W w1) (ho : OwnR (R + 1) w1 v qs') (hn : 0 < qs'.length) :
    BtSt R G g A nm v qs' w (w1.setCell ⟨G, 1, none⟩ v) ∧ w1.cell? ⟨G, 1, none⟩ = some u ∧ (∀ j, w1.frozen? ⟨G, j, none⟩ = false) := by
  have h' := h.later hb
  have hg4 := h'.gs
  have n2 : ¬ u.ownBlock = some G := fun e => h'.ng _ e rfl
  have c0 : w1.cell? ⟨G, 0, none⟩ = some (.string nm) := cell_only hq h'.q0 n2
  refine ⟨h'.rings hq ho (fun b e eb => ?_), cell_only hq h'.q1 n2, fun j => (frozen_only hq (show G < _ from hg4) n2).trans (h'.qf j)⟩
  subst eb
  obtain ⟨ao, cp, gv, hv, hav, hov⟩ := own_open ho
  subst hv
  have e2 := hov hn
  rw [e2] at e
  cases e
  obtain rfl := hav hn
  have c1 := World.ownsRow.cellAt ho 0 (by omega)
  rw [c0, (show (trips qs')[0]? = _ from (trips_at (ps := qs') (k := 0) hn).1)] at c1
  cases c1

end Go.Proofs.YtgdadbmhdljcdaaGreatDoor

/- A profile that is seldom not valid is drawn: the walk. -/
namespace Go.Proofs.YtgdadbmhdljcdaaGreatDoor
set_option linter.unusedVariables false
open Go.RowKit Go.Proofs.Bell Go.BigFrame

set_option maxRecDepth 100000 in
set_option maxHeartbeats 6400000 in
theorem l05Bent_c (A g : Nat) (w : World) (h : Src A g w) (hA : A ≤ 100000000) : Calls Tryz.prog 116 #[.pointer (some ⟨g, 0, none⟩)] w (RetBt (A + 200) g w) := by
  have hgw := h.lt
  have hdr := fun w' (hx : Src A g w') => l05Draw_c A g w' hx (by omega)
  have hpk := fun n w' A' (h1 : n ≤ 60000) (h0 : -1000000 ≤ n) (hx : Src A' g w') (hA' : A' ≤ 100000000000) => pick_c A' g n w' hx hA' h1 h0
  have ham := fun A' W b a0 a1 a2 a3 (hx : Src A' g W) (hA' : A' ≤ 100000000000) hne c0 c1 c2 c3 => among4_c A' g b a0 a1 a2 a3 W hx hA' hne c0 c1 c2 c3
  have hdn := fun A' W (hx : Src A' g W) (hA' : A' ≤ 10000000000) => drawName_c A' g W hx hA'
  have HDR := Lib.hid hdr; clear hdr
  have HPK := Lib.hid hpk; clear hpk
  have HAM := Lib.hid ham; clear ham
  have HDN := Lib.hid hdn; clear hdn
  have H := Lib.hid h; clear h
  go_enter Tryz.func116, Tryz.ntmps116
  go_wp2_with fail
  refine (HDR.out _ (H.out.later (by go_grown))).mono ?_
  rintro _ w1 ⟨nm, rs, u, rfl, o1, hp, hnm, h2, h9, k1, q1⟩
  obtain ⟨au, pu, rfl⟩ := own_shape o1
  have ng : ¬ w.heap.size = g := by omega
  have hz1 : w.heap.size + 1 ≤ w1.heap.size := by have := q1.size; simpa using this
  have d0 := cell_only q1 (p := ⟨w.heap.size, 0, none⟩) (v := .string ⟨#[]⟩) (by simp [go_sem]) ng
  have d1 := cell_only q1 (p := ⟨w.heap.size, 1, none⟩) (v := .slice none 0 0) (by simp [go_sem]) ng
  have df : ∀ j, w1.frozen? ⟨w.heap.size, j, none⟩ = false := fun j => (frozen_only q1 (p := ⟨w.heap.size, j, none⟩) (by simp; try omega) ng).trans (by simp [go_sem])
  have ho1 : Only (fun b => b = g) w w1 := (Only.of_below (by go_grown)).trans q1
  have kb : ∀ o, Below w1.heap.size w1 (w1.alloc o) := fun o => (Below.refl _ _).alloc (Nat.le_refl _) o
  have o1' := own_base o1 (show w.heap.size + 1 ≤ _ by simp)
  have st : BtSt w.heap.size w1.heap.size g (A + 100) nm (.slice au rs.length pu) rs w (w1.alloc (.cells #[.string nm, .slice au rs.length pu] 26)) :=
    ⟨ho1.trans (Only.of_below (kb _)), hgw, Nat.le_refl _, by omega, by simp, alloc_cell _ d0, alloc_cell _ d1, fun j => (alloc_frozen _ (by show w.heap.size < _; omega)).trans (df j), by simp [go_sem], by simp [go_sem], fun j => by simp [go_sem], own_later o1' (kb _), fun b e => by have := own_lt o1 b e; omega, k1.later (kb _)⟩
  clear d0 d1 df ho1 kb q1 k1 o1 o1' hp
  have HNM := Lib.hid hnm; clear hnm
  have ST := Lib.hid st; clear st
  go_wp2_with fail
  generalize w1.alloc (.cells #[.string nm, .slice au rs.length pu] 26) = w2 at *
  refine (HPK.out _ _ _ (by omega) (by omega) ST.out.src (by omega)).mono ?_
  rintro _ w3 ⟨r, rfl, l1, u1, k1, q1⟩
  have st := ST.out.go q1 k1
  clear ST q1 k1
  obtain ⟨_, _, gu, hvu, hau, _⟩ := own_open st.own
  cases hvu
  obtain rfl : au = some ⟨gu, 0, none⟩ := hau (by omega)
  have hgs := st.gs
  have hguG : gu ≠ w1.heap.size := st.ng gu rfl
  have hgug : gu ≠ g := by have := own_lo st.own gu rfl; omega
  have hgul := own_lt st.own gu rfl
  have c1 := st.q1
  have p0 : w3.cell? ⟨gu, 0, none⟩ = some (.int .i64 (rg rs 0).1) := (World.ownsRow.cellAt st.own 0 (by omega)).trans (by rw [rg_eq (by omega)]; exact (trips_at (ps := rs) (k := 0) (by omega)).1)
  have ctx : True := trivial
  have ST := Lib.hid st; clear st
  have ngug : ∀ j, ¬ (⟨gu, j, none⟩ : Addr).block = g := fun j => hgug
  have ngG : ¬ w1.heap.size = g := by omega
  by_cases e0 : r = 0
  · subst e0
    have kb : Below w3.heap.size w3 (w3.alloc (.cells #[] 37)) := (Below.refl _ _).alloc (Nat.le_refl _) _
    have st0 := ST.out.rings (Only.of_below kb) (v := .slice (some ⟨w3.heap.size, 0, none⟩) 0 0) (qs' := []) (own_empty _ _ _ _ (by omega)) (fun b e => by simp [Value.ownBlock] at e; omega)
    have sc1 := alloc_cell (.cells #[] 37) c1
    have sf := fun j => (alloc_frozen (.cells #[] 37) (show (⟨w1.heap.size, j, none⟩ : Addr).block < w3.heap.size from hgs)).trans (ST.out.qf j)
    have hsw : (w3.alloc (.cells #[] 37)).setCell ⟨w1.heap.size, 1, none⟩ (.slice (some ⟨w3.heap.size, 0, none⟩) 0 0) = (w3.setCell ⟨w1.heap.size, 1, none⟩ (.slice (some ⟨w3.heap.size, 0, none⟩) 0 0)).alloc (.cells #[] 37) := World.setCell_alloc_past _ _ _ _ hgs
    rw [hsw] at st0
    have r0 := st0.r0
    have r1 := st0.r1
    have rf := st0.rf
    have q0 := st0.q0
    have q1 := st0.q1
    have hfin := ({ st0 with src := st0.src.mono (show A + 100 + 2 ≤ A + 200 by omega) } : BtSt w.heap.size w1.heap.size g (A + 200) nm _ _ w _).fin HNM.out (by simp)
    have HFIN := Lib.hid hfin; clear hfin
    clear st0 kb p0 hsw
    go_wp2
    refine bodyPost_ret (v := .agg #[.string nm, .slice (some ⟨w3.heap.size, 0, none⟩) 0 0]) (by simp [results, Tryz.results116, go_sem, r0, r1]) rfl HFIN.out
  · have t0 : (r == 0) = false := by simpa using e0
    by_cases e1 : r = 1
    · subst e1
      have nex1 : (⟨w1.heap.size, 1, none⟩ : Addr) ≠ ⟨gu, 1, none⟩ := by simp; try omega
      have nex1' : (⟨gu, 1, none⟩ : Addr) ≠ ⟨w1.heap.size, 1, none⟩ := Ne.symm nex1
      have nex0 : (⟨gu, 0, none⟩ : Addr) ≠ ⟨gu, 1, none⟩ := by simp
      have nex0' : (⟨gu, 1, none⟩ : Addr) ≠ ⟨gu, 0, none⟩ := Ne.symm nex0
      have ix0 := ix (P := Tryz.prog) (T := 24) (n := rs.length) (cap := pu) Tryz.underlying24 cells_Ring has_Ring (ao := some ⟨gu, 0, none⟩) (b := gu) (off := 0) (fun _ => rfl) (k := 0) (by omega) 0 rfl
      simp only [Nat.zero_mul, Nat.one_mul, Nat.zero_add] at ix0
      have ac1 := fun o => alloc_cell o c1
      have ap0 := fun o => alloc_cell o p0
      have hgs9 := hgs
      go_wp2_with fail
      go_region_held3 (fun w' => w'.cell? ⟨w1.heap.size, 1, none⟩ = some (.slice (some ⟨gu, 0, none⟩) rs.length pu) ∧ w'.cell? ⟨gu, 0, none⟩ = some (.int .i64 (rg rs 0).1)) (first | with_reducible exact ⟨c1, p0⟩ | with_reducible exact ⟨ac1 _, ap0 _⟩ | with_reducible exact ⟨d1, d0⟩ | with_reducible exact ⟨(World.cell?_setCell_other _ _ _ _ nex1').trans d1, (World.cell?_setCell_other _ _ _ _ nex0').trans d0⟩ | with_reducible exact ⟨(World.cell?_setCell_other _ _ _ _ nex1).trans d1, (World.cell?_setCell_other _ _ _ _ nex0).trans d0⟩ | go_keep) ((go_at_call 82; refine (HAM.out _ _ w3.heap.size 0 (IntKind.i64.wrap ((rg rs 0).1 - 100)) (IntKind.i64.wrap ((rg rs 0).1 - 99)) (-1) (ST.out.src.later (by go_grown)) (by omega) (by omega) (by simp [go_sem]) (by simp [go_sem]) (by simp [go_sem]) (by simp [go_sem])).mono ?_; rintro _ w4 ⟨x, rfl, hm, k4, q4⟩; have st4 := ST.out.go ((Only.of_below (by go_grown)).trans q4) k4; have d1 := st4.q1; have d0 : w4.cell? ⟨gu, 0, none⟩ = some (.int .i64 (rg rs 0).1) := (World.ownsRow.cellAt st4.own 0 (by omega)).trans (by rw [rg_eq (by omega)]; exact (trips_at (ps := rs) (k := 0) (by omega)).1); obtain ⟨y9, dc⟩ : ∃ y, w4.cell? ⟨gu, 1, none⟩ = some y := ⟨_, (World.ownsRow.cellAt st4.own 1 (by omega)).trans (List.getElem?_eq_getElem (by rw [trips_len]; omega))⟩; have df := World.ownsRow.frozenAt st4.own 1; have ST4 := Lib.hid st4; clear st4; clear q4 k4 hm))
      have st5 := ST4.out.put (qs' := rs.set 0 ((rg rs 0).1, x, (rg rs 0).2.2)) rfl 1 (.int .i64 x) (by simp) (trips_put1 rs 0 x (by omega))
      have r0 := st5.r0
      have r1 := st5.r1
      have rf := st5.rf
      have q0 := st5.q0
      have q1 := st5.q1
      have hfin := ({ st5 with src := st5.src.mono (show A + 100 + 2 + 2 ≤ A + 200 by omega) } : BtSt w.heap.size w1.heap.size g (A + 200) nm _ _ w _).fin HNM.out (by simp; omega)
      have HFIN := Lib.hid hfin; clear hfin
      clear st5 p0 c1 ac1 ap0 d1 d0 dc df
      go_wp2
      refine bodyPost_ret (v := .agg #[.string nm, .slice (some ⟨gu, 0, none⟩) rs.length pu]) (by simp [results, Tryz.results116, go_sem, r0, r1]) rfl HFIN.out
    · have t1 : (r == 1) = false := by simpa using e1
      by_cases e2 : r = 2
      · subst e2
        have nex1 : (⟨w1.heap.size, 1, none⟩ : Addr) ≠ ⟨gu, 3, none⟩ := by simp; try omega
        have nex1' : (⟨gu, 3, none⟩ : Addr) ≠ ⟨w1.heap.size, 1, none⟩ := Ne.symm nex1
        have ix0 := ix (P := Tryz.prog) (T := 24) (n := rs.length) (cap := pu) Tryz.underlying24 cells_Ring has_Ring (ao := some ⟨gu, 0, none⟩) (b := gu) (off := 0) (fun _ => rfl) (k := 1) (by omega) 1 rfl
        simp only [Nat.zero_mul, Nat.one_mul, Nat.zero_add] at ix0
        have ac1 := fun o => alloc_cell o c1
        have hgs9 := hgs
        clear p0
        go_wp2_with fail
        go_region_held3 (fun w' => w'.cell? ⟨w1.heap.size, 1, none⟩ = some (.slice (some ⟨gu, 0, none⟩) rs.length pu)) (first | with_reducible exact c1 | with_reducible exact ac1 _ | with_reducible exact d1 | with_reducible exact (World.cell?_setCell_other _ _ _ _ nex1').trans d1 | with_reducible exact (World.cell?_setCell_other _ _ _ _ nex1).trans d1 | go_keep) ((go_at_call 82; refine (HAM.out _ _ w3.heap.size 499 500 150000 150001 (ST.out.src.later (by go_grown)) (by omega) (by omega) (by simp [go_sem]) (by simp [go_sem]) (by simp [go_sem]) (by simp [go_sem])).mono ?_; rintro _ w4 ⟨x, rfl, hm, k4, q4⟩; have st4 := ST.out.go ((Only.of_below (by go_grown)).trans q4) k4; have d1 := st4.q1; obtain ⟨y9, dc⟩ : ∃ y, w4.cell? ⟨gu, 3, none⟩ = some y := ⟨_, (World.ownsRow.cellAt st4.own 3 (by omega)).trans (List.getElem?_eq_getElem (by rw [trips_len]; omega))⟩; have df := World.ownsRow.frozenAt st4.own 3; have ST4 := Lib.hid st4; clear st4; clear q4 k4 hm))
        have st5 := ST4.out.put (qs' := rs.set 1 (x, (rg rs 1).2)) rfl 3 (.int .i64 x) (by simp) (trips_put0 rs 1 x (by omega))
        have r0 := st5.r0
        have r1 := st5.r1
        have rf := st5.rf
        have q0 := st5.q0
        have q1 := st5.q1
        have hfin := ({ st5 with src := st5.src.mono (show A + 100 + 2 + 2 ≤ A + 200 by omega) } : BtSt w.heap.size w1.heap.size g (A + 200) nm _ _ w _).fin HNM.out (by simp; omega)
        have HFIN := Lib.hid hfin; clear hfin
        clear st5 c1 ac1 d1 dc df
        go_wp2
        refine bodyPost_ret (v := .agg #[.string nm, .slice (some ⟨gu, 0, none⟩) rs.length pu]) (by simp [results, Tryz.results116, go_sem, r0, r1]) rfl HFIN.out
      · have t2 : (r == 2) = false := by simpa using e2
        by_cases e3 : r = 3
        · subst e3
          have nex1 : (⟨w1.heap.size, 1, none⟩ : Addr) ≠ ⟨gu, 2, none⟩ := by simp; try omega
          have nex1' : (⟨gu, 2, none⟩ : Addr) ≠ ⟨w1.heap.size, 1, none⟩ := Ne.symm nex1
          have ix0 := ix (P := Tryz.prog) (T := 24) (n := rs.length) (cap := pu) Tryz.underlying24 cells_Ring has_Ring (ao := some ⟨gu, 0, none⟩) (b := gu) (off := 0) (fun _ => rfl) (k := 0) (by omega) 0 rfl
          simp only [Nat.zero_mul, Nat.one_mul, Nat.zero_add] at ix0
          have ac1 := fun o => alloc_cell o c1
          have hgs9 := hgs
          clear p0
          go_wp2_with fail
          go_region_held3 (fun w' => w'.cell? ⟨w1.heap.size, 1, none⟩ = some (.slice (some ⟨gu, 0, none⟩) rs.length pu)) (first | with_reducible exact c1 | with_reducible exact ac1 _ | with_reducible exact d1 | with_reducible exact (World.cell?_setCell_other _ _ _ _ nex1').trans d1 | with_reducible exact (World.cell?_setCell_other _ _ _ _ nex1).trans d1 | go_keep) ((go_at_call 82; refine (HAM.out _ _ w3.heap.size 9 10 300000 300001 (ST.out.src.later (by go_grown)) (by omega) (by omega) (by simp [go_sem]) (by simp [go_sem]) (by simp [go_sem]) (by simp [go_sem])).mono ?_; rintro _ w4 ⟨x, rfl, hm, k4, q4⟩; have st4 := ST.out.go ((Only.of_below (by go_grown)).trans q4) k4; have d1 := st4.q1; obtain ⟨y9, dc⟩ : ∃ y, w4.cell? ⟨gu, 2, none⟩ = some y := ⟨_, (World.ownsRow.cellAt st4.own 2 (by omega)).trans (List.getElem?_eq_getElem (by rw [trips_len]; omega))⟩; have df := World.ownsRow.frozenAt st4.own 2; have ST4 := Lib.hid st4; clear st4; clear q4 k4 hm))
          have st5 := ST4.out.put (qs' := rs.set 0 ((rg rs 0).1, (rg rs 0).2.1, x)) rfl 2 (.int .i64 x) (by simp) (trips_put2 rs 0 x (by omega))
          have r0 := st5.r0
          have r1 := st5.r1
          have rf := st5.rf
          have q0 := st5.q0
          have q1 := st5.q1
          have hfin := ({ st5 with src := st5.src.mono (show A + 100 + 2 + 2 ≤ A + 200 by omega) } : BtSt w.heap.size w1.heap.size g (A + 200) nm _ _ w _).fin HNM.out (by simp; omega)
          have HFIN := Lib.hid hfin; clear hfin
          clear st5 c1 ac1 d1 dc df
          go_wp2
          refine bodyPost_ret (v := .agg #[.string nm, .slice (some ⟨gu, 0, none⟩) rs.length pu]) (by simp [results, Tryz.results116, go_sem, r0, r1]) rfl HFIN.out
        · have t3 : (r == 3) = false := by simpa using e3
          by_cases e4 : r = 4
          · subst e4
            clear p0
            go_wp2_with fail
            refine (HPK.out _ _ _ (by omega) (by omega) ST.out.src (by omega)).mono ?_
            rintro _ w4 ⟨r2, rfl, l2, u2, k4, q4⟩
            have st4 := ST.out.go q4 k4
            clear ST k4 q4 c1
            obtain ⟨m, rfl⟩ : ∃ m : Nat, r2 = (m : Int) := ⟨r2.toNat, by omega⟩
            have hm : m ≤ 2 := by omega
            clear l2 u2
            have hw4 : IntKind.i64.wrap (31 + (m : Int)) = 31 + (m : Int) := IntWalk.i64_in _ (by omega)
            have ST := Lib.hid st4; clear st4
            go_wp2_with fail
            go_loopg [] (31 + m - rs.length) (fun k wr => ∃ (ao : Option Addr) (c : Nat) (qs : List (Int × Int × Int)), 0 < qs.length ∧ qs.length + k = 31 + m ∧ BtSt w.heap.size w1.heap.size g (A + 100 + 2 + 2) nm (.slice ao qs.length c) qs w wr)
            case atStart => exact ⟨_, _, rs, by omega, by omega, ST.out⟩
            case round =>
              obtain ⟨ao, cp, qs, hq0, hqk, hS⟩ := hrel
              obtain ⟨k, hk⟩ : ∃ k, qs.length = k + 1 := ⟨qs.length - 1, by omega⟩
              obtain ⟨_, _, gv, hvv, hav, _⟩ := own_open hS.own
              cases hvv
              obtain rfl : ao = some ⟨gv, 0, none⟩ := hav (by omega)
              have hgsr := hS.gs
              have d1 := hS.q1
              have lt : k < qs.length := by omega
              have x0 : wr.cell? ⟨gv, k * 3, none⟩ = some (.int .i64 (rg qs k).1) := (World.ownsRow.cellAt hS.own (k * 3) (by omega)).trans (by rw [rg_eq lt]; exact (trips_at lt).1)
              have x1 : wr.cell? ⟨gv, k * 3 + 1, none⟩ = some (.int .i64 (rg qs k).2.1) := (World.ownsRow.cellAt hS.own (k * 3 + 1) (by omega)).trans (by rw [rg_eq lt]; exact (trips_at lt).2.1)
              have x2 : wr.cell? ⟨gv, k * 3 + 2, none⟩ = some (.int .i64 (rg qs k).2.2) := (World.ownsRow.cellAt hS.own (k * 3 + 2) (by omega)).trans (by rw [rg_eq lt]; exact (trips_at lt).2.2)
              have ixk := ix (P := Tryz.prog) (T := 24) (n := qs.length) (cap := cp) Tryz.underlying24 cells_Ring has_Ring (ao := some ⟨gv, 0, none⟩) (b := gv) (off := 0) (fun _ => rfl) (k := k) (by omega) k rfl
              simp only [Nat.zero_add] at ixk
              have hwk : IntKind.i64.wrap ((qs.length : Int) - 1) = (k : Int) := (IntWalk.i64_in _ (by omega)).trans (by omega)
              have HR := Lib.hid hS; clear hS
              by_cases hlt : qs.length < 31 + m
              · have htd : decide ((qs.length : Int) < 31 + (m : Int)) = true := by simp; omega
                have HK := Lib.hid hk; clear hk
                have HQK := Lib.hid hqk; clear hqk
                generalize (rg qs k).1 = y0 at *
                generalize (rg qs k).2.1 = y1 at *
                generalize (rg qs k).2.2 = y2 at *
                have ad1 := fun o => alloc_cell o d1
                go_wp2_with fail
                go_region_law (refine sapp1_R (.tmp 63) (.tmp 72) wr.drew (w.heap.size + 1) wr.heap.size _ qs y0 y1 y2 (by rfl) (by rfl) (by rfl) (by rfl) (by rfl) (HR.out.later (by go_grown)).own (by omega) (by simp; omega) ?_; intro v3 w7 o3 q3; obtain ⟨qs', hqs⟩ : ∃ q, q = qs ++ [(y0, y1, y2)] := (⟨_, rfl⟩); rw [← hqs] at o3; have hl' : qs'.length = qs.length + 1 := (by rw [hqs]; simp); clear hqs; obtain ⟨a3, p3, hv3⟩ := own_shape o3; subst hv3; obtain ⟨t3, e1, ef⟩ := HR.out.app (by go_grown) q3 o3 (by omega); have T3 := Lib.hid t3; clear t3; clear q3; have O3 := Lib.hid o3; clear o3; have HL := Lib.hid hl'; clear hl')
                all_goals (go_wp2; go_roundg (gk - 1))
                all_goals first | (case rel => exact ⟨a3, p3, qs', by have := HL.out; omega, by have := HL.out; have := HQK.out; omega, T3.out⟩) | (case measure => have := HQK.out; omega) | skip
              · have htd : decide ((qs.length : Int) < 31 + (m : Int)) = false := by simp; omega
                have st5 := HR.out
                have r0 := st5.r0
                have r1 := st5.r1
                have rf := st5.rf
                have q0 := st5.q0
                have q1 := st5.q1
                have hfin := ({ st5 with src := st5.src.mono (show A + 100 + 2 + 2 ≤ A + 200 by omega) } : BtSt w.heap.size w1.heap.size g (A + 200) nm _ _ w _).fin HNM.out (by omega)
                have HFIN := Lib.hid hfin; clear hfin
                have HK := Lib.hid hk; clear hk
                have HQK := Lib.hid hqk; clear hqk
                clear st5 d1 x0 x1 x2 ixk
                go_wp2
                refine bodyPost_ret (v := .agg #[.string nm, .slice (some ⟨gv, 0, none⟩) qs.length cp]) (by simp [results, Tryz.results116, go_sem, r0, r1]) rfl HFIN.out
          · have t4 : (r == 4) = false := by simpa using e4
            by_cases e5 : r = 5
            · subst e5
              clear p0
              go_wp2_with fail
              refine (HDN.out _ _ ST.out.src (by omega)).mono ?_
              rintro _ w4 ⟨nm5, rfl, hm5, k4, q4⟩
              have st4 := ST.out.go q4 k4
              have c0 := st4.q0
              have cf := st4.qf
              have st5 := st4.name (nm' := nm5)
              have r0 := st5.r0
              have r1 := st5.r1
              have rf := st5.rf
              have q0 := st5.q0
              have q1 := st5.q1
              have hfin := ({ st5 with src := st5.src.mono (show A + 100 + 2 + 2 ≤ A + 200 by omega) } : BtSt w.heap.size w1.heap.size g (A + 200) nm5 _ _ w _).fin hm5 (by omega)
              have HFIN := Lib.hid hfin; clear hfin
              clear st4 st5 q4 k4 c1
              go_wp2
              refine bodyPost_ret (v := .agg #[.string nm5, .slice (some ⟨gu, 0, none⟩) rs.length pu]) (by simp [results, Tryz.results116, go_sem, r0, r1]) rfl HFIN.out
            · have t5 : (r == 5) = false := by simpa using e5
              have st5 := ST.out
              have r0 := st5.r0
              have r1 := st5.r1
              have rf := st5.rf
              have q0 := st5.q0
              have q1 := st5.q1
              have hfin := ({ st5 with src := st5.src.mono (show A + 100 + 2 ≤ A + 200 by omega) } : BtSt w.heap.size w1.heap.size g (A + 200) nm _ _ w _).fin HNM.out (by omega)
              have HFIN := Lib.hid hfin; clear hfin
              clear st5 p0 c1
              go_wp2
              refine bodyPost_ret (v := .agg #[.string nm, .slice (some ⟨gu, 0, none⟩) rs.length pu]) (by simp [results, Tryz.results116, go_sem, r0, r1]) rfl HFIN.out

end Go.Proofs.YtgdadbmhdljcdaaGreatDoor

/- The draws of a profile that is seldom not valid, and of a density. -/
namespace Go.Proofs.YtgdadbmhdljcdaaGreatDoor
set_option linter.unusedVariables false
open Go.RowKit Go.Proofs.Bell Go.BigFrame

def RetBr (w : World) (e : Ending) (w' : World) : Prop := ∃ (nm : ByteArray) (rs : List (Int × Int × Int)) (u : Value), e = .returned (.agg #[.string nm, u]) ∧ OwnR w.heap.size w' u rs ∧ nm.size ≤ maxLen ∧ rs.length ≤ 100 ∧ Below w.heap.size w w'
theorem from_c (ao : Option Addr) (n cap : Nat) (w' : World) : Calls Tryz.prog 41 #[.slice ao n cap] w' (fun e w'' => e = .returned (.pointer (some ⟨w'.heap.size, 0, none⟩)) ∧ w'' = w'.alloc (.cells #[.slice ao n cap, .int .i64 0, .int .u64 0] 138)) := by
  go_enter Tryz.func41, Tryz.ntmps41
  go_wp2
  go_returns
  exact ⟨rfl, rfl⟩

def RetZ (A g : Nat) (w : World) (e : Ending) (w' : World) : Prop := ∃ d : Int, e = .returned (.int .i64 d) ∧ Src A g w' ∧ Only (fun b => b = g) w w'
end Go.Proofs.YtgdadbmhdljcdaaGreatDoor

