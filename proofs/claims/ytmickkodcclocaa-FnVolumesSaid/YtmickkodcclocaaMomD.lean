/- The draws of a profile that is seldom not valid with a density. -/
import Derived.Test.YtmickkodcclocaaCentD
namespace Go.Proofs.Ytmickkodcclocaa
set_option linter.unusedVariables false
open Go.RowKit Go.Proofs.Bell Go.BigFrame

theorem Src.off {A g R j : Nat} {w : World} {v : Value} (h : Src A g w) (c : w.cell? ⟨R, j, none⟩ = some v) (hv : ∀ k z, v ≠ .int k z) (hg : R ≠ g) (x : Value) : Src A g (w.setCell ⟨R, j, none⟩ x) := by
  obtain ⟨ao, n, cap, b, off, c0, h1, h2, h3, h4⟩ := h.code
  obtain ⟨k, k1, k2⟩ := h.pos
  obtain ⟨s, s1⟩ := h.seed
  have ne : ∀ i, (⟨R, j, none⟩ : Addr) ≠ ⟨g, i, none⟩ := fun i e => hg (by injection e)
  have oth : ∀ (q : Addr) (y : Value), (⟨R, j, none⟩ : Addr) ≠ q → w.cell? q = some y → (w.setCell ⟨R, j, none⟩ x).cell? q = some y := fun q y hq hy => by
    rw [World.cell?_setCell_other _ _ _ _ (by first | exact hq | exact Ne.symm hq)]; exact hy
  refine ⟨⟨ao, n, cap, b, off, oth _ _ (ne 0) c0, h1, h2, h3, fun i hi => ?_⟩, ⟨k, k1, oth _ _ (ne 1) k2⟩, ⟨s, oth _ _ (ne 2) s1⟩, fun i => by rw [World.frozen?_setCell]; exact h.fz i⟩
  obtain ⟨u, u1, u2, u3⟩ := h4 i hi
  refine ⟨u, u1, u2, oth _ _ (fun e => ?_) u3⟩
  rw [← e, c] at u3
  exact hv _ _ (Option.some.inj u3)

structure DmSt (R G g A : Nat) (nm : ByteArray) (u : Value) (rs : List (Int × Int × Int)) (v0 v1 : Value) (w wr : World) : Prop where
  below : Below w.heap.size w wr
  rw : w.heap.size ≤ R
  gr : R < g
  rg : R < G
  gG : g ≠ G
  gs : G < wr.heap.size
  r0 : wr.cell? ⟨R, 0, none⟩ = some v0
  r1 : wr.cell? ⟨R, 1, none⟩ = some v1
  rf : ∀ j, wr.frozen? ⟨R, j, none⟩ = false
  q0 : wr.cell? ⟨G, 0, none⟩ = some (.string nm)
  q1 : wr.cell? ⟨G, 1, none⟩ = some u
  own : OwnR (g + 1) wr u rs
  src : Src A g wr
theorem DmSt.go {R G g A B : Nat} {nm : ByteArray} {u v0 v1 : Value} {rs : List (Int × Int × Int)} {w wr w1 : World} (h : DmSt R G g A nm u rs v0 v1 w wr) (hq : Only (fun b => b = g) wr w1) (hs : Src B g w1) : DmSt R G g B nm u rs v0 v1 w w1 := by
  have h1 := h.rw; have h2 := h.gr; have h3 := h.rg; have h4 := h.gs; have h5 := h.gG; have h6 := h.below.size
  exact ⟨Only.below h.below hq h6 (fun b e => by omega), h1, h2, h3, h5, Nat.lt_of_lt_of_le h4 hq.size, cell_only hq h.r0 (by show ¬ R = g; omega), cell_only hq h.r1 (by show ¬ R = g; omega), fun j => (frozen_only hq (show R < _ by omega) (by show ¬ R = g; omega)).trans (h.rf j),
    cell_only hq h.q0 (by show ¬ G = g; omega), cell_only hq h.q1 (by show ¬ G = g; omega), own_only h.own hq (fun k hk e => by have := own_lo h.own k hk; omega), hs⟩
theorem DmSt.later {R G g A : Nat} {nm : ByteArray} {u v0 v1 : Value} {rs : List (Int × Int × Int)} {w wr w1 : World} (h : DmSt R G g A nm u rs v0 v1 w wr) (hb : Below wr.heap.size wr w1) : DmSt R G g A nm u rs v0 v1 w w1 := h.go (Only.of_below hb) (h.src.later hb)
theorem DmSt.fill {R G g A : Nat} {nm : ByteArray} {u v0 v1 : Value} {rs : List (Int × Int × Int)} {w wr : World} (h : DmSt R G g A nm u rs v0 v1 w wr) (hv0 : ∀ k z, v0 ≠ .int k z) (hv1 : ∀ k z, v1 ≠ .int k z) : DmSt R G g A nm u rs (.string nm) u w ((wr.setCell ⟨R, 0, none⟩ (.string nm)).setCell ⟨R, 1, none⟩ u) := by
  have h1 := h.rw; have h2 := h.gr; have h3 := h.rg; have h4 := h.gs; have h5 := h.gG; have h6 := h.below.size
  have o11 := own_set h.own (a := ⟨R, 0, none⟩) (fun k hk => by have := own_lo h.own k hk; show R ≠ k; omega) (.string nm)
  have o12 := own_set o11 (a := ⟨R, 1, none⟩) (fun k hk => by have := own_lo h.own k hk; show R ≠ k; omega) u
  refine ⟨(h.below.setCell (by show w.heap.size ≤ R; omega) _).setCell (by show w.heap.size ≤ R; omega) _, h1, h2, h3, h5, by simpa using h4, ?_, ?_, fun j => by rw [World.frozen?_setCell, World.frozen?_setCell]; exact h.rf j, ?_, ?_, o12, ?_⟩
  · rw [World.cell?_setCell_other _ _ _ _ (by simp)]; exact World.cell?_setCell_same _ _ _ h.r0
  · exact World.cell?_setCell_same _ _ _ (by rw [World.cell?_setCell_other _ _ _ _ (by simp)]; exact h.r1)
  · rw [World.cell?_setCell_other _ _ _ _ (by simp; try omega), World.cell?_setCell_other _ _ _ _ (by simp; try omega)]; exact h.q0
  · rw [World.cell?_setCell_other _ _ _ _ (by simp; try omega), World.cell?_setCell_other _ _ _ _ (by simp; try omega)]; exact h.q1
  · exact (h.src.off h.r0 hv0 (by omega) _).off (by rw [World.cell?_setCell_other _ _ _ _ (by simp)]; exact h.r1) hv1 (by omega) _

def RetBd (w : World) (e : Ending) (w' : World) : Prop := ∃ (nm : ByteArray) (rs : List (Int × Int × Int)) (u : Value) (d : Int), e = .returned (.tuple #[.agg #[.string nm, u], .int .i64 d]) ∧ OwnR w.heap.size w' u rs ∧ nm.size ≤ maxLen ∧ rs.length ≤ 100 ∧ Below w.heap.size w w'
theorem DmSt.fin {R G g A : Nat} {nm : ByteArray} {u v0 v1 : Value} {rs : List (Int × Int × Int)} {w wr : World} (h : DmSt R G g A nm u rs v0 v1 w wr) (hnm : nm.size ≤ maxLen) (hl : rs.length ≤ 100) (d : Int) : RetBd w (.returned (.tuple #[.agg #[.string nm, u], .int .i64 d])) wr :=
  ⟨nm, rs, u, d, rfl, own_base h.own (by have h1 := h.rw; have h2 := h.gr; omega), hnm, hl, h.below⟩

set_option maxHeartbeats 1600000 in
theorem DrawMomentOf_c (v : Value) (zs : List Int) (w : World) (h : Rd w v zs.length (bytesV zs)) (hz : ∀ z ∈ zs, Byte z) (hl : zs.length ≤ 1048576) : Calls Try.prog 58 #[v] w (RetBd w) := by
  have kb : ∀ o, Below w.heap.size w (w.alloc o) := fun o => (Below.refl _ _).alloc (Nat.le_refl _) o
  have hsrc := fun o t => src_new v zs (w.alloc o) (h.later (kb o)) hz hl t
  obtain ⟨hn, ao, cap, b, off, rfl, hao, hcell⟩ := h.open
  have hdr := fun w' g (hx : Src 0 g w') => l05Bent_c 0 g w' hx (by omega)
  have hden := fun w' g (hx : Src 200 g w') => l06DrawDensity_c 200 g w' hx (by omega)
  have HDR := Lib.hid hdr; clear hdr
  have HDEN := Lib.hid hden; clear hden
  have HSRC := Lib.hid hsrc; clear hsrc
  clear hao hcell h hz
  generalize zs.length = n at *
  have hfr := fun w' => from_c ao n cap w'
  have HFR := Lib.hid hfr; clear hfr
  go_enter Try.func58, Try.ntmps58
  go_wp2_with fail
  refine (HFR.out _).mono ?_
  rintro _ _ ⟨rfl, rfl⟩
  go_wp2_with fail
  refine (HDR.out _ _ (by simpa using HSRC.out _ _)).mono ?_
  rintro _ w2 ⟨nm, rs, u, rfl, o2, hnm, hrl, k2, q2⟩
  obtain ⟨au, pu, rfl⟩ := own_shape o2
  have hz2 : w.heap.size + 2 ≤ w2.heap.size := by have := q2.size; simpa using this
  have e0 := cell_only (p := ⟨w.heap.size, 0, none⟩) (v := .string ⟨#[]⟩) q2 (by simp [go_sem]) (by simp)
  have e1 := cell_only (p := ⟨w.heap.size, 1, none⟩) (v := .slice none 0 0) q2 (by simp [go_sem]) (by simp)
  have ef : ∀ j, w2.frozen? ⟨w.heap.size, j, none⟩ = false := fun j => (frozen_only q2 (p := ⟨w.heap.size, j, none⟩) (by simp; try omega) (by simp)).trans (by simp [go_sem])
  have b2 : Below w.heap.size w w2 := Only.below (by go_grown) q2 (by simp; omega) (fun b e => by first | omega | (simp at e; omega))
  have kb2 : ∀ o, Below w2.heap.size w2 (w2.alloc o) := fun o => (Below.refl _ _).alloc (Nat.le_refl _) o
  have o2' := own_base o2 (show w.heap.size + 1 + 1 ≤ _ by simp)
  have k2' : Src 200 (w.heap.size + 1) w2 := by simpa using k2
  have st : DmSt w.heap.size w2.heap.size (w.heap.size + 1) 200 nm (.slice au rs.length pu) rs (.string ⟨#[]⟩) (.slice none 0 0) w (w2.alloc (.cells #[.string nm, .slice au rs.length pu] 28)) :=
    ⟨b2.trans ((kb2 _).mono (by omega)), Nat.le_refl _, by omega, by omega, by omega, by simp, alloc_cell _ e0, alloc_cell _ e1, fun j => (alloc_frozen _ (by show w.heap.size < _; omega)).trans (ef j), by simp [go_sem], by simp [go_sem], own_later o2' (kb2 _), k2'.later (kb2 _)⟩
  clear e0 e1 ef b2 kb2 o2 o2' k2 k2' q2
  have ST := Lib.hid st; clear st
  have HNM := Lib.hid hnm; clear hnm
  have HRL := Lib.hid hrl; clear hrl
  go_wp2_with fail
  generalize w2.alloc (.cells #[.string nm, .slice au rs.length pu] 28) = w3 at *
  have c0 := ST.out.q0
  have c1 := ST.out.q1
  have r0 := ST.out.r0
  have r1 := ST.out.r1
  have rf := ST.out.rf
  have hgs := ST.out.gs
  have hf := ST.out.fill (fun _ _ e => by cases e) (fun _ _ e => by cases e)
  have HF := Lib.hid hf; clear hf
  go_region_with (go_at_call 138; first | (refine (HDEN.out _ _ (ST.out.later (by go_grown)).src).mono ?_; rintro _ w4 ⟨d, rfl, k4, q4⟩; have st4 := (ST.out.later (by go_grown)).go q4 k4; have c0 := st4.q0; have c1 := st4.q1; have r0 := st4.r0; have r1 := st4.r1; have rf := st4.rf; have ST4 := Lib.hid st4; clear st4; clear q4 k4) | (refine (HDEN.out _ _ HF.out.src).mono ?_; rintro _ w4 ⟨d, rfl, k4, q4⟩; have st4 := HF.out.go q4 k4; have c0 := st4.q0; have c1 := st4.q1; have r0 := st4.r0; have r1 := st4.r1; have rf := st4.rf; have ST4 := Lib.hid st4; clear st4; clear q4 k4))
  all_goals (
    have hfin := fun d => (ST4.out.fill (fun _ _ e => by cases e) (fun _ _ e => by cases e)).fin HNM.out HRL.out d
    have HFIN := Lib.hid hfin; clear hfin
    clear HF
    go_wp2
    refine bodyPost_ret (v := .tuple #[.agg #[.string nm, .slice au rs.length pu], .int .i64 d]) (by simp [results, Try.results58, go_sem, r0, r1]) rfl (HFIN.out d))

set_option maxHeartbeats 1600000 in
theorem DrawRingMasses_c (v : Value) (zs : List Int) (w : World) (h : Rd w v zs.length (bytesV zs)) (hz : ∀ z ∈ zs, Byte z) (hl : zs.length ≤ 1048576) : Calls Try.prog 64 #[v] w (RetBd w) := by
  have kb : ∀ o, Below w.heap.size w (w.alloc o) := fun o => (Below.refl _ _).alloc (Nat.le_refl _) o
  have hsrc := fun o t => src_new v zs (w.alloc o) (h.later (kb o)) hz hl t
  obtain ⟨hn, ao, cap, b, off, rfl, hao, hcell⟩ := h.open
  have hdr := fun w' g (hx : Src 0 g w') => l05Bent_c 0 g w' hx (by omega)
  have hden := fun w' g (hx : Src 200 g w') => l06DrawDensity_c 200 g w' hx (by omega)
  have HDR := Lib.hid hdr; clear hdr
  have HDEN := Lib.hid hden; clear hden
  have HSRC := Lib.hid hsrc; clear hsrc
  clear hao hcell h hz
  generalize zs.length = n at *
  have hfr := fun w' => from_c ao n cap w'
  have HFR := Lib.hid hfr; clear hfr
  go_enter Try.func64, Try.ntmps64
  go_wp2_with fail
  refine (HFR.out _).mono ?_
  rintro _ _ ⟨rfl, rfl⟩
  go_wp2_with fail
  refine (HDR.out _ _ (by simpa using HSRC.out _ _)).mono ?_
  rintro _ w2 ⟨nm, rs, u, rfl, o2, hnm, hrl, k2, q2⟩
  obtain ⟨au, pu, rfl⟩ := own_shape o2
  have hz2 : w.heap.size + 2 ≤ w2.heap.size := by have := q2.size; simpa using this
  have e0 := cell_only (p := ⟨w.heap.size, 0, none⟩) (v := .string ⟨#[]⟩) q2 (by simp [go_sem]) (by simp)
  have e1 := cell_only (p := ⟨w.heap.size, 1, none⟩) (v := .slice none 0 0) q2 (by simp [go_sem]) (by simp)
  have ef : ∀ j, w2.frozen? ⟨w.heap.size, j, none⟩ = false := fun j => (frozen_only q2 (p := ⟨w.heap.size, j, none⟩) (by simp; try omega) (by simp)).trans (by simp [go_sem])
  have b2 : Below w.heap.size w w2 := Only.below (by go_grown) q2 (by simp; omega) (fun b e => by first | omega | (simp at e; omega))
  have kb2 : ∀ o, Below w2.heap.size w2 (w2.alloc o) := fun o => (Below.refl _ _).alloc (Nat.le_refl _) o
  have o2' := own_base o2 (show w.heap.size + 1 + 1 ≤ _ by simp)
  have k2' : Src 200 (w.heap.size + 1) w2 := by simpa using k2
  have st : DmSt w.heap.size w2.heap.size (w.heap.size + 1) 200 nm (.slice au rs.length pu) rs (.string ⟨#[]⟩) (.slice none 0 0) w (w2.alloc (.cells #[.string nm, .slice au rs.length pu] 28)) :=
    ⟨b2.trans ((kb2 _).mono (by omega)), Nat.le_refl _, by omega, by omega, by omega, by simp, alloc_cell _ e0, alloc_cell _ e1, fun j => (alloc_frozen _ (by show w.heap.size < _; omega)).trans (ef j), by simp [go_sem], by simp [go_sem], own_later o2' (kb2 _), k2'.later (kb2 _)⟩
  clear e0 e1 ef b2 kb2 o2 o2' k2 k2' q2
  have ST := Lib.hid st; clear st
  have HNM := Lib.hid hnm; clear hnm
  have HRL := Lib.hid hrl; clear hrl
  go_wp2_with fail
  generalize w2.alloc (.cells #[.string nm, .slice au rs.length pu] 28) = w3 at *
  have c0 := ST.out.q0
  have c1 := ST.out.q1
  have r0 := ST.out.r0
  have r1 := ST.out.r1
  have rf := ST.out.rf
  have hgs := ST.out.gs
  have hf := ST.out.fill (fun _ _ e => by cases e) (fun _ _ e => by cases e)
  have HF := Lib.hid hf; clear hf
  go_region_with (go_at_call 138; first | (refine (HDEN.out _ _ (ST.out.later (by go_grown)).src).mono ?_; rintro _ w4 ⟨d, rfl, k4, q4⟩; have st4 := (ST.out.later (by go_grown)).go q4 k4; have c0 := st4.q0; have c1 := st4.q1; have r0 := st4.r0; have r1 := st4.r1; have rf := st4.rf; have ST4 := Lib.hid st4; clear st4; clear q4 k4) | (refine (HDEN.out _ _ HF.out.src).mono ?_; rintro _ w4 ⟨d, rfl, k4, q4⟩; have st4 := HF.out.go q4 k4; have c0 := st4.q0; have c1 := st4.q1; have r0 := st4.r0; have r1 := st4.r1; have rf := st4.rf; have ST4 := Lib.hid st4; clear st4; clear q4 k4))
  all_goals (
    have hfin := fun d => (ST4.out.fill (fun _ _ e => by cases e) (fun _ _ e => by cases e)).fin HNM.out HRL.out d
    have HFIN := Lib.hid hfin; clear hfin
    clear HF
    go_wp2
    refine bodyPost_ret (v := .tuple #[.agg #[.string nm, .slice au rs.length pu], .int .i64 d]) (by simp [results, Try.results64, go_sem, r0, r1]) rfl (HFIN.out d))

end Go.Proofs.Ytmickkodcclocaa
