/- Several texts of the proofs in one: RngD, RngW, RngV. -/
import Derived.Test.YtmickkodcclocaaCentD
import Derived.Test.YtmickkodcclocaaGst
/- The draw of a ring. -/
namespace Go.Proofs.Ytmickkodcclocaa
set_option linter.unusedVariables false
open Go.RowKit Go.Proofs.Bell Go.BigFrame

structure RgSt (R B g A : Nat) (o i h : Int) (w wr : World) : Prop where
  only : Only (fun b => b = g) w wr
  gw : g < w.heap.size
  rw : w.heap.size ≤ R
  rb : R < B
  bs : B < wr.heap.size
  r0 : wr.cell? ⟨R, 0, none⟩ = some (.int .i64 0)
  r1 : wr.cell? ⟨R, 1, none⟩ = some (.int .i64 0)
  r2 : wr.cell? ⟨R, 2, none⟩ = some (.int .i64 0)
  rf : ∀ j, wr.frozen? ⟨R, j, none⟩ = false
  b0 : wr.cell? ⟨B, 0, none⟩ = some (.int .i64 o)
  b1 : wr.cell? ⟨B, 1, none⟩ = some (.int .i64 i)
  b2 : wr.cell? ⟨B, 2, none⟩ = some (.int .i64 h)
  bf : ∀ j, wr.frozen? ⟨B, j, none⟩ = false
  src : Src A g wr
theorem RgSt.go {R B g A A' : Nat} {o i h : Int} {w wr w1 : World} (s : RgSt R B g A o i h w wr) (hq : Only (fun b => b = g) wr w1) (hs : Src A' g w1) : RgSt R B g A' o i h w w1 := by
  have h1 := s.gw; have h2 := s.rw; have h3 := s.rb; have h4 := s.bs
  have nR : ∀ j, ¬ (⟨R, j, none⟩ : Addr).block = g := fun j => by show ¬ R = g; omega
  have nB : ∀ j, ¬ (⟨B, j, none⟩ : Addr).block = g := fun j => by show ¬ B = g; omega
  exact ⟨s.only.trans hq, h1, h2, h3, Nat.lt_of_lt_of_le h4 hq.size, cell_only hq s.r0 (nR 0), cell_only hq s.r1 (nR 1), cell_only hq s.r2 (nR 2), fun j => (frozen_only hq (show R < _ by omega) (nR j)).trans (s.rf j),
    cell_only hq s.b0 (nB 0), cell_only hq s.b1 (nB 1), cell_only hq s.b2 (nB 2), fun j => (frozen_only hq (show B < _ by omega) (nB j)).trans (s.bf j), hs⟩
theorem RgSt.later {R B g A : Nat} {o i h : Int} {w wr w1 : World} (s : RgSt R B g A o i h w wr) (hb : Below wr.heap.size wr w1) : RgSt R B g A o i h w w1 := s.go (Only.of_below hb) (s.src.later hb)
/-- a cell of the ring is written -/
theorem RgSt.set {R B g A : Nat} {o i h : Int} {w wr : World} (s : RgSt R B g A o i h w wr) (j : Nat) (x : Int) (hj : j < 3) : RgSt R B g A (if j = 0 then x else o) (if j = 1 then x else i) (if j = 2 then x else h) w (wr.setCell ⟨B, j, none⟩ (.int .i64 x)) := by
  have h1 := s.gw; have h2 := s.rw; have h3 := s.rb; have h4 := s.bs
  have hR : ∀ (k : Nat) (v : Value), wr.cell? ⟨R, k, none⟩ = some v → (wr.setCell ⟨B, j, none⟩ (.int .i64 x)).cell? ⟨R, k, none⟩ = some v := fun k v e => by
    rw [World.cell?_setCell_other _ _ _ _ (by simp; try omega)]; exact e
  have hB : ∀ (k : Nat) (z : Int), wr.cell? ⟨B, k, none⟩ = some (.int .i64 z) → (wr.setCell ⟨B, j, none⟩ (.int .i64 x)).cell? ⟨B, k, none⟩ = some (.int .i64 (if j = k then x else z)) := fun k z e => by
    by_cases hk : j = k
    · subst hk; rw [if_pos rfl]; exact World.cell?_setCell_same _ _ _ e
    · rw [if_neg hk, World.cell?_setCell_other _ _ _ _ (by simp; try omega)]; exact e
  exact ⟨⟨s.only.os, s.only.tape, s.only.output, by simpa using s.only.size, fun k hk hn => (Below.heap_setCell _ _ _ _ (by show k ≠ B; omega)).trans (s.only.block k hk hn)⟩, h1, h2, h3, by simpa using h4,
    hR _ _ s.r0, hR _ _ s.r1, hR _ _ s.r2, fun q => by rw [World.frozen?_setCell]; exact s.rf q, hB 0 o s.b0, hB 1 i s.b1, hB 2 h s.b2, fun q => by rw [World.frozen?_setCell]; exact s.bf q,
    s.src.keep ((Only.refl (fun b => b = B) wr).setCell (p := ⟨B, j, none⟩) rfl _) (fun b e => by omega)⟩
def RetRn (w : World) (g : Nat) (e : Ending) (w' : World) : Prop := ∃ o i h : Int, e = .returned (.agg #[.int .i64 o, .int .i64 i, .int .i64 h]) ∧ Only (fun b => b = g) w w'
theorem RgSt.fin {R B g A : Nat} {o i h : Int} {w wr : World} (s : RgSt R B g A o i h w wr) : RetRn w g (.returned (.agg #[.int .i64 o, .int .i64 i, .int .i64 h])) (((wr.setCell ⟨R, 0, none⟩ (.int .i64 o)).setCell ⟨R, 1, none⟩ (.int .i64 i)).setCell ⟨R, 2, none⟩ (.int .i64 h)) := by
  have h1 := s.gw; have h2 := s.rw; have h3 := s.rb; have h4 := s.bs
  have key : ∀ (wq : World) j v, Only (fun b => b = g) w wq → Only (fun b => b = g) w (wq.setCell ⟨R, j, none⟩ v) := fun wq j v a2 =>
    ⟨a2.os, a2.tape, a2.output, by simpa using a2.size, fun k hk hn => (Below.heap_setCell _ _ _ _ (by show k ≠ R; omega)).trans (a2.block k hk hn)⟩
  exact ⟨o, i, h, rfl, key _ _ _ (key _ _ _ (key _ _ _ s.only))⟩

theorem rd_three {w : World} {b : Nat} {a0 a1 a2 : Int} (hb : b < w.heap.size) (h0 : w.cell? ⟨b, 0, none⟩ = some (.int .i64 a0)) (h1 : w.cell? ⟨b, 1, none⟩ = some (.int .i64 a1)) (h2 : w.cell? ⟨b, 2, none⟩ = some (.int .i64 a2)) :
    Rd w (.slice (some ⟨b, 0, none⟩) 3 3) 3 (ints [a0, a1, a2]) := by
  refine ⟨by decide, .inr ⟨by decide, b, 0, 3, rfl, by decide, by decide, hb, fun j u hj => ?_⟩⟩
  match j, hj with
  | 0, hj => simp [ints] at hj; subst hj; simpa using h0
  | 1, hj => simp [ints] at hj; subst hj; simpa using h1
  | 2, hj => simp [ints] at hj; subst hj; simpa using h2
  | n + 3, hj => simp [ints] at hj
theorem among3_c (A g b : Nat) (a0 a1 a2 : Int) (w : World) (h : Src A g w) (hA : A ≤ 100000000000) (hne : b ≠ g) (h0 : w.cell? ⟨b, 0, none⟩ = some (.int .i64 a0)) (h1 : w.cell? ⟨b, 1, none⟩ = some (.int .i64 a1)) (h2 : w.cell? ⟨b, 2, none⟩ = some (.int .i64 a2)) :
    Calls Try.prog 191 #[.pointer (some ⟨g, 0, none⟩), .slice (some ⟨b, 0, none⟩) 3 3] w (RetOf [a0, a1, a2] (A + 2) g w) :=
  among_c A g _ [a0, a1, a2] w h hA (rd_three (World.block_lt_of_cell? _ _ h0) h0 h1 h2) (by simp) (by simp) (fun q e => by simp [Value.ownBlock] at e; omega)

end Go.Proofs.Ytmickkodcclocaa

/- The draw of a ring: the walk. -/
namespace Go.Proofs.Ytmickkodcclocaa
set_option linter.unusedVariables false
open Go.RowKit Go.Proofs.Bell Go.BigFrame

set_option maxRecDepth 100000 in
set_option maxHeartbeats 3200000 in
theorem l06DrawRing_c (A g : Nat) (w : World) (h : Src A g w) (hA : A ≤ 100000000) : Calls Try.prog 142 #[.pointer (some ⟨g, 0, none⟩)] w (RetRn w g) := by
  have hgw := h.lt
  have hpk := fun n w' A' (h1 : n ≤ 60000) (h0 : -1000000 ≤ n) (hx : Src A' g w') (hA' : A' ≤ 100000000000) => pick_c A' g n w' hx hA' h1 h0
  have ham := fun A' W b a0 a1 a2 (hx : Src A' g W) (hA' : A' ≤ 100000000000) hne c0 c1 c2 => among3_c A' g b a0 a1 a2 W hx hA' hne c0 c1 c2
  have hmx := fun a b w' => l00Max_c a b w'
  have HPK := Lib.hid hpk; clear hpk
  have HAM := Lib.hid ham; clear ham
  have HMX := Lib.hid hmx; clear hmx
  have H := Lib.hid h; clear h
  go_enter Try.func142, Try.ntmps142
  go_wp2_with fail
  refine (HPK.out _ _ _ (by omega) (by omega) (H.out.later (by go_grown)) (by omega)).mono ?_
  rintro _ w1 ⟨r, rfl, l1, u1, k1, q1⟩
  have ng : ¬ w.heap.size = g := by omega
  have hz1 : w.heap.size + 1 ≤ w1.heap.size := by have := q1.size; simpa using this
  have d0 := cell_only q1 (p := ⟨w.heap.size, 0, none⟩) (v := .int .i64 0) (by simp [go_sem]) ng
  have d1 := cell_only q1 (p := ⟨w.heap.size, 1, none⟩) (v := .int .i64 0) (by simp [go_sem]) ng
  have d2 := cell_only q1 (p := ⟨w.heap.size, 2, none⟩) (v := .int .i64 0) (by simp [go_sem]) ng
  have df : ∀ j, w1.frozen? ⟨w.heap.size, j, none⟩ = false := fun j => (frozen_only q1 (p := ⟨w.heap.size, j, none⟩) (by simp; try omega) ng).trans (by simp [go_sem])
  have ho1 : Only (fun b => b = g) w w1 := (Only.of_below (by go_grown)).trans q1
  have kb : ∀ o, Below w1.heap.size w1 (w1.alloc o) := fun o => (Below.refl _ _).alloc (Nat.le_refl _) o
  have hw : IntKind.i64.wrap (500 + r) = 500 + r := IntWalk.i64_in _ (by omega)
  have st : RgSt w.heap.size w1.heap.size g (A + 2) (500 + r) 0 0 w (w1.alloc (.cells #[.int .i64 (500 + r), .int .i64 0, .int .i64 0] 80)) :=
    ⟨ho1.trans (Only.of_below (kb _)), hgw, Nat.le_refl _, by omega, by simp, alloc_cell _ d0, alloc_cell _ d1, alloc_cell _ d2, fun j => (alloc_frozen _ (by show w.heap.size < _; omega)).trans (df j), by simp [go_sem], by simp [go_sem], by simp [go_sem], fun j => by simp [go_sem], k1.later (kb _)⟩
  clear d0 d1 d2 df ho1 kb q1 k1
  have ST := Lib.hid st; clear st
  go_wp2_with fail
  generalize w1.alloc (.cells #[.int .i64 (500 + r), .int .i64 0, .int .i64 0] 80) = w2 at *
  have c0 := ST.out.b0
  have c1 := ST.out.b1
  have bf := ST.out.bf
  have hgs := ST.out.bs
  have nex : (⟨w1.heap.size, 0, none⟩ : Addr) ≠ ⟨w1.heap.size, 1, none⟩ := by simp
  have nex' := Ne.symm nex
  go_region_held3 (fun w' => w'.cell? ⟨w1.heap.size, 0, none⟩ = some (.int .i64 (500 + r))) (first | with_reducible exact c0 | with_reducible exact d0 | with_reducible exact (World.cell?_setCell_other _ _ _ _ nex').trans d0 | with_reducible exact (World.cell?_setCell_other _ _ _ _ nex).trans d0 | go_keep) ((first | (go_at_call 148; refine (HPK.out _ _ _ (by omega) (by omega) (ST.out.src.later (by go_grown)) (by omega)).mono ?_; rintro _ w3 ⟨r2, rfl, l2, u2, k2, q2⟩; have st2 := ST.out.go ((Only.of_below (by go_grown)).trans q2) k2; have d0 := st2.b0; have d1 := st2.b1; have bf := st2.bf; have ST2 := Lib.hid st2; clear st2; clear q2 k2) | (go_at_call 175; refine (HMX.out _ _ _).mono ?_; rintro _ _ ⟨rfl, rfl⟩)))
  clear c0 c1 bf
  obtain ⟨i, hi⟩ : ∃ i, i = max 0 (IntKind.i64.wrap (IntKind.i64.wrap (500 + r - 100) - r2)) := ⟨_, rfl⟩
  rw [← hi]
  clear hi
  have st3 : RgSt w.heap.size w1.heap.size g (A + 2 + 2) (500 + r) i 0 w (w3.setCell ⟨w1.heap.size, 1, none⟩ (.int .i64 i)) := ST2.out.set 1 i (by omega)
  generalize w3.setCell ⟨w1.heap.size, 1, none⟩ (.int .i64 i) = w4 at *
  clear ST2 ST d0 d1 l2 u2
  have ST3 := Lib.hid st3; clear st3
  go_wp2_with fail
  refine (HPK.out _ _ _ (by omega) (by omega) ST3.out.src (by omega)).mono ?_
  rintro _ w5 ⟨r3, rfl, l3, u3, k5, q5⟩
  have st5 := ST3.out.go q5 k5
  have hw3 : IntKind.i64.wrap (10 + r3) = 10 + r3 := IntWalk.i64_in _ (by omega)
  have c2 := st5.b2
  have bf := st5.bf
  have ST5 := Lib.hid st5; clear st5
  clear q5 k5 ST3
  go_wp2_with fail
  have st6 : RgSt w.heap.size w1.heap.size g (A + 2 + 2 + 2) (500 + r) i (10 + r3) w (w5.setCell ⟨w1.heap.size, 2, none⟩ (.int .i64 (10 + r3))) := ST5.out.set 2 (10 + r3) (by omega)
  generalize w5.setCell ⟨w1.heap.size, 2, none⟩ (.int .i64 (10 + r3)) = w6 at *
  clear ST5 c2 bf
  have ST6 := Lib.hid st6; clear st6
  refine (HPK.out _ _ _ (by omega) (by omega) ST6.out.src (by omega)).mono ?_
  rintro _ w7 ⟨r4, rfl, l4, u4, k7, q7⟩
  have st7 := ST6.out.go q7 k7
  have c0 := st7.b0
  have c1 := st7.b1
  have c2 := st7.b2
  have bf := st7.bf
  have hgs7 := st7.bs
  clear ST6 q7 k7
  have ST7 := Lib.hid st7; clear st7
  generalize 10 + r3 = h at *
  clear hw3 hw l3 u3
  generalize 500 + r = o at *
  by_cases e0 : r4 = 0
  · subst e0
    have st9 : RgSt w.heap.size w1.heap.size g (A + 2 + 2 + 2 + 2) 150000 0 300000 w (((w7.setCell ⟨w1.heap.size, 0, none⟩ (.int .i64 150000)).setCell ⟨w1.heap.size, 1, none⟩ (.int .i64 0)).setCell ⟨w1.heap.size, 2, none⟩ (.int .i64 300000)) := ((ST7.out.set 0 150000 (by omega)).set 1 0 (by omega)).set 2 300000 (by omega)
    have r0 := st9.r0
    have r1 := st9.r1
    have r2 := st9.r2
    have rf := st9.rf
    have b0 := st9.b0
    have b1 := st9.b1
    have b2 := st9.b2
    have hfin := st9.fin
    have HFIN := Lib.hid hfin; clear hfin
    clear st9
    go_wp2
    exact bodyPost_ret (v := .agg #[.int .i64 150000, .int .i64 0, .int .i64 300000]) (by simp [results, Try.results142, go_sem, r0, r1, r2]) rfl HFIN.out
  · have t0 : (r4 == 0) = false := by simpa using e0
    by_cases e1 : r4 = 1
    · subst e1
      have ac0 := fun o => alloc_cell o c0
      go_wp2_with fail
      go_region_held3 (fun w' => w'.cell? ⟨w1.heap.size, 0, none⟩ = some (.int .i64 o)) (first | with_reducible exact c0 | with_reducible exact ac0 _ | with_reducible exact d0 | with_reducible exact (World.cell?_setCell_other _ _ _ _ nex').trans d0 | with_reducible exact (World.cell?_setCell_other _ _ _ _ nex).trans d0 | go_keep) ((go_at_call 191; refine (HAM.out _ _ w7.heap.size 100 99 0 (ST7.out.src.later (by go_grown)) (by omega) (by omega) (by simp [go_sem]) (by simp [go_sem]) (by simp [go_sem])).mono ?_; rintro _ w8 ⟨x, rfl, hx, k8, q8⟩; have st8 := ST7.out.go ((Only.of_below (by go_grown)).trans q8) k8; have d0 := st8.b0; have d1 := st8.b1; have df := st8.bf; have rf8 := st8.rf; have d4 := st8.r0; have d5 := st8.r1; have d6 := st8.r2; have ST8 := Lib.hid st8; clear st8; clear q8 k8 hx))
      obtain ⟨y, hy⟩ : ∃ y, y = IntKind.i64.wrap (o - x) := ⟨_, rfl⟩
      rw [← hy]
      clear hy
      have st9 : RgSt w.heap.size w1.heap.size g (A + 2 + 2 + 2 + 2 + 2) o y h w (w8.setCell ⟨w1.heap.size, 1, none⟩ (.int .i64 y)) := ST8.out.set 1 _ (by omega)
      clear c0 c1 c2 bf ac0
      have r0 := st9.r0
      have r1 := st9.r1
      have r2 := st9.r2
      have rf := st9.rf
      have b0 := st9.b0
      have b1 := st9.b1
      have b2 := st9.b2
      have hfin := st9.fin
      have HFIN := Lib.hid hfin; clear hfin
      clear st9
      go_wp2
      exact bodyPost_ret (v := .agg #[.int .i64 o, .int .i64 y, .int .i64 h]) (by simp [results, Try.results142, go_sem, r0, r1, r2, d4, d5, d6]) rfl HFIN.out
    · have t1 : (r4 == 1) = false := by simpa using e1
      by_cases e2 : r4 = 2
      · subst e2
        go_wp2_with fail
        refine (HAM.out _ _ w7.heap.size 9 10 300001 (ST7.out.src.later (by go_grown)) (by omega) (by omega) (by simp [go_sem]) (by simp [go_sem]) (by simp [go_sem])).mono ?_
        rintro _ w8 ⟨x, rfl, hx, k8, q8⟩
        have st8 := ST7.out.go ((Only.of_below (by go_grown)).trans q8) k8
        have d2 := st8.b2
        have df := st8.bf
        have rf8 := st8.rf
        have st9 : RgSt w.heap.size w1.heap.size g (A + 2 + 2 + 2 + 2 + 2) o i x w (w8.setCell ⟨w1.heap.size, 2, none⟩ (.int .i64 x)) := st8.set 2 x (by omega)
        clear c0 c1 c2 bf q8 k8 hx st8
        have r0 := st9.r0
        have r1 := st9.r1
        have r2 := st9.r2
        have rf := st9.rf
        have b0 := st9.b0
        have b1 := st9.b1
        have b2 := st9.b2
        have hfin := st9.fin
        have HFIN := Lib.hid hfin; clear hfin
        clear st9
        go_wp2
        exact bodyPost_ret (v := .agg #[.int .i64 o, .int .i64 i, .int .i64 x]) (by simp [results, Try.results142, go_sem, r0, r1, r2]) rfl HFIN.out
      · have t2 : (r4 == 2) = false := by simpa using e2
        have st9 := ST7.out
        have r0 := st9.r0
        have r1 := st9.r1
        have r2 := st9.r2
        have rf := st9.rf
        have b0 := st9.b0
        have b1 := st9.b1
        have b2 := st9.b2
        have hfin := st9.fin
        have HFIN := Lib.hid hfin; clear hfin
        clear st9
        go_wp2
        exact bodyPost_ret (v := .agg #[.int .i64 o, .int .i64 i, .int .i64 h]) (by simp [results, Try.results142, go_sem, r0, r1, r2]) rfl HFIN.out

end Go.Proofs.Ytmickkodcclocaa

/- The draw of a ring from bytes; the size of a number. -/
namespace Go.Proofs.Ytmickkodcclocaa
set_option linter.unusedVariables false
open Go.RowKit Go.Proofs.Bell Go.BigFrame

def RetRi (w : World) (e : Ending) (w' : World) : Prop := ∃ o i h : Int, e = .returned (.agg #[.int .i64 o, .int .i64 i, .int .i64 h]) ∧ Below w.heap.size w w'
theorem DrawRingVolume_c (v : Value) (zs : List Int) (w : World) (h : Rd w v zs.length (bytesV zs)) (hz : ∀ z ∈ zs, Byte z) (hl : zs.length ≤ 1048576) : Calls Try.prog 62 #[v] w (RetRi w) := by
  have kb : ∀ o, Below w.heap.size w (w.alloc o) := fun o => (Below.refl _ _).alloc (Nat.le_refl _) o
  have hsrc := fun o t => src_new v zs (w.alloc o) (h.later (kb o)) hz hl t
  obtain ⟨hn, ao, cap, b, off, rfl, hao, hcell⟩ := h.open
  have hdr := fun w' g (hx : Src 0 g w') => l06DrawRing_c 0 g w' hx (by omega)
  have HDR := Lib.hid hdr; clear hdr
  have HSRC := Lib.hid hsrc; clear hsrc
  clear hao hcell h hz
  generalize zs.length = n at *
  have hfr := fun w' => from_c ao n cap w'
  have HFR := Lib.hid hfr; clear hfr
  go_enter Try.func62, Try.ntmps62
  go_wp2_with fail
  refine (HFR.out _).mono ?_
  rintro _ _ ⟨rfl, rfl⟩
  go_wp2_with fail
  refine (HDR.out _ _ (by simpa using HSRC.out _ _)).mono ?_
  rintro _ w2 ⟨o, i, h, rfl, q2⟩
  have e0 := cell_only (p := ⟨w.heap.size, 0, none⟩) (v := .int .i64 0) q2 (by simp [go_sem]) (by simp)
  have e1 := cell_only (p := ⟨w.heap.size, 1, none⟩) (v := .int .i64 0) q2 (by simp [go_sem]) (by simp)
  have e2 := cell_only (p := ⟨w.heap.size, 2, none⟩) (v := .int .i64 0) q2 (by simp [go_sem]) (by simp)
  have ef : ∀ j, w2.frozen? ⟨w.heap.size, j, none⟩ = false := fun j => (frozen_only q2 (p := ⟨w.heap.size, j, none⟩) (by simp; try omega) (by simp)).trans (by simp [go_sem])
  have b2 : Below w.heap.size w w2 := Only.below (by go_grown) q2 (by simp; omega) (fun b e => by first | omega | (simp at e; omega))
  clear q2
  go_wp2
  refine bodyPost_ret (v := .agg #[.int .i64 o, .int .i64 i, .int .i64 h]) (by simp [results, Try.results62, go_sem, e0, e1, e2]) rfl ?_
  exact ⟨o, i, h, rfl, ((b2.setCell (Nat.le_refl _) _).setCell (Nat.le_refl _) _).setCell (Nat.le_refl _) _⟩

theorem b10Abs_c (n M : Int) (w : World) (h1 : n ≤ M) (h2 : -n ≤ M) (hM : M ≤ 1000000000000000000) : Calls Try.prog 69 #[.int .i64 n] w (RetS (.int .i64 (if n < 0 then -n else n)) w) := by
  by_cases t : n < 0
  · rw [if_pos t]
    have t1 : decide (n < 0) = true := decide_eq_true t
    have hw : IntKind.i64.wrap (-n) = -n := IntWalk.i64_in _ (by omega)
    go_enter Try.func69, Try.ntmps69
    go_wp2
    go_returns
    exact RetS.mk rfl
  · rw [if_neg t]
    have t1 : decide (n < 0) = false := decide_eq_false t
    go_enter Try.func69, Try.ntmps69
    go_wp2
    go_returns
    exact RetS.mk rfl

end Go.Proofs.Ytmickkodcclocaa

