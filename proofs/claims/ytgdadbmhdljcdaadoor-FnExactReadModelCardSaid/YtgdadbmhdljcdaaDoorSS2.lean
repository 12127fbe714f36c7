/- Models: copied, compared. -/
import Derived.Test.YtgdadbmhdljcdaaDoorGB
import Derived.Test.YtgdadbmhdljcdaaDoorSS
namespace Go.Proofs.YtgdadbmhdljcdaaDoor
set_option linter.unusedVariables false
open Go.RowKit Go.Proofs.Bell Go.BigFrame

def eqWs (xs ys : List (List Int)) : Bool := decide (xs = ys)
theorem eqWs_refl (xs : List (List Int)) : eqWs xs xs = true := decide_eq_true rfl
theorem getDw {ws : List (List Int)} {k : Nat} (h : k < ws.length) : ws.getD k [] = ws[k] := by simp [List.getD, h]

set_option maxHeartbeats 800000 in
theorem eqInt64SS_c (v v' : Value) (ps qs : List (List Int)) (w : World) (h : RdSS w v ps) (h' : RdSS w v' qs) :
    Calls Tryd.prog 48 #[v, v'] w (RetD (.bool (eqWs ps qs)) w) := by
  obtain ⟨us, hus, hr, hrow⟩ := h
  obtain ⟨us', hus', hr', hrow'⟩ := h'
  generalize hn : ps.length = n at *
  generalize hm : qs.length = m at *
  have HN := Lib.hid hn; clear hn
  have HM := Lib.hid hm; clear hm
  obtain ⟨hn, ao, cap, b, off, rfl, hao, hcell⟩ := hr.open
  obtain ⟨hn', ao', cap', b', off', rfl, hao', hcell'⟩ := hr'.open
  clear hr hr'
  by_cases hlen : n = m
  · subst hlen
    have HROW := Lib.hid hrow; clear hrow
    have HROW' := Lib.hid hrow'; clear hrow'
    go_enter Tryd.func48, Tryd.ntmps48
    go_wp2_with fail
    go_loopw [5] (fun i wr => ∃ (k : Nat), k ≤ n ∧ i = .int .i64 k ∧ ps.take k = qs.take k ∧ Dr w wr) (fun i _ => n - (intOf i).toNat)
    case atStart => exact ⟨0, Nat.zero_le _, rfl, rfl, Dr.refl _⟩
    case round =>
      obtain ⟨k, hk, rfl, hx, hd⟩ := hrel
      have hb := hd.below
      have HX := Lib.hid hx; clear hx
      by_cases hlt : k < n
      · have hltp : k < ps.length := by rw [HN.out]; exact hlt
        have hltq : k < qs.length := by rw [HM.out]; exact hlt
        have hix := ix (P := Tryd.prog) (T := 23) (cap := cap) Tryd.underlying23 cells_SS has_SS hao hlt k rfl
        have hix' := ix (P := Tryd.prog) (T := 23) (cap := cap') Tryd.underlying23 cells_SS has_SS hao' hlt k rfl
        rw [Nat.mul_one] at hix hix'
        have hc1 : wr.cell? ⟨b, off + k, none⟩ = some (us.getD k nv) := hcell _ hb _ _ (by omega) (getDv (by omega))
        have hd1 : wr.cell? ⟨b', off' + k, none⟩ = some (us'.getD k nv) := hcell' _ hb _ _ (by omega) (getDv (by omega))
        have r1 := HROW.out k hlt
        have r2 := HROW'.out k hlt
        rw [getDw hltp] at r1
        rw [getDw hltq] at r2
        have he := fun w' (hd' : Dr wr w') => eqInt64S_c (us.getD k nv) (us'.getD k nv) ps[k] qs[k] w' (r1.later (hd.trans hd').below) (r2.later (hd.trans hd').below)
        have hp : eqZs ps[k] qs[k] = true → ps.take (k + 1) = qs.take (k + 1) := fun h2 => take_step HX.out hltp hltq (of_decide_eq_true h2)
        have hq : eqZs ps[k] qs[k] = false → eqWs ps qs = false := fun h => by
          refine decide_eq_false fun e => of_decide_eq_false h ?_
          subst e; rfl
        have HE := Lib.hid he; clear he
        have HP := Lib.hid hp; clear hp
        have HQ := Lib.hid hq; clear hq
        clear hcell hcell' r1 r2
        generalize ps[k] = p at *
        generalize qs[k] = q at *
        generalize us.getD k nv = u at *
        generalize us'.getD k nv = u' at *
        cases t1 : eqZs p q <;> rw [t1] at HE
        · go_wp2_with fail
          go_quiet ((go_at_call 47; exact quietD (HE.out _ ⟨_, rfl⟩)))
          clear hc1 hd1
          go_wp2
          go_returns
          exact RetD.mk (bool_eq (HQ.out t1).symm) (by first | exact Dr.refl _ | exact Dr.next (by assumption) _ | assumption | exact ⟨_, rfl⟩ | exact ⟨_, World.drewN_drewN _ _ _⟩)
        · go_wp2_with fail
          go_quiet ((go_at_call 47; exact quietD (HE.out _ ⟨_, rfl⟩)))
          clear hc1 hd1
          go_wp2
          go_roundw
          case rel => exact ⟨k + 1, by omega, by go_num, HP.out t1, (by first | exact Dr.refl _ | exact Dr.next (by assumption) _ | assumption | exact ⟨_, rfl⟩ | exact ⟨_, World.drewN_drewN _ _ _⟩)⟩
          case measure => simp [intOf]; omega
      · obtain rfl : k = n := by omega
        go_wp2
        go_returns
        refine RetD.mk (bool_eq ?_) (by first | exact Dr.refl _ | exact Dr.next (by assumption) _ | assumption | exact ⟨_, rfl⟩ | exact ⟨_, World.drewN_drewN _ _ _⟩)
        have e := HX.out
        rw [List.take_of_length_le (by rw [HN.out]; exact Nat.le_refl _), List.take_of_length_le (by rw [HM.out]; exact Nat.le_refl _)] at e
        exact (decide_eq_true e).symm
  · clear hrow hrow'
    go_enter Tryd.func48, Tryd.ntmps48
    go_wp2
    go_returns
    refine RetD.mk (bool_eq (decide_eq_false ?_).symm) (Dr.refl _)
    rintro rfl
    exact hlen (HN.out.symm.trans HM.out)

/-- a model of one's own, whose blocks lie from `lo` to `hi` -/
structure OwnM (lo hi : Nat) (w : World) (zv wv bv : Value) (us : List Value) (zs : List Int) (ws : List (List Int)) (bs : List Int) : Prop where
  z : OwnI lo w zv zs
  zh : ∀ b, zv.ownBlock = some b → b < hi
  s : OwnSS lo hi w wv us ws
  b : OwnI lo w bv bs
  bh : ∀ b, bv.ownBlock = some b → b < hi
  zb : ∀ b, zv.ownBlock = some b → bv.ownBlock ≠ some b
  zc : ∀ b, zv.ownBlock = some b → wv.ownBlock ≠ some b
  zu : ∀ k, k < ws.length → ∀ b, (us.getD k nv).ownBlock = some b → zv.ownBlock ≠ some b
  bu : ∀ k, k < ws.length → ∀ b, (us.getD k nv).ownBlock = some b → bv.ownBlock ≠ some b
  bc : ∀ b, bv.ownBlock = some b → wv.ownBlock ≠ some b
theorem OwnM.later {lo hi : Nat} {w w' : World} {zv wv bv : Value} {us : List Value} {zs : List Int} {ws : List (List Int)} {bs : List Int} (h : OwnM lo hi w zv wv bv us zs ws bs) (hb : Below w.heap.size w w') : OwnM lo hi w' zv wv bv us zs ws bs :=
  ⟨own_later h.z hb, h.zh, h.s.later hb, own_later h.b hb, h.bh, h.zb, h.zc, h.zu, h.bu, h.bc⟩
theorem OwnM.only {lo hi : Nat} {S : Nat → Prop} {w w' : World} {zv wv bv : Value} {us : List Value} {zs : List Int} {ws : List (List Int)} {bs : List Int} (h : OwnM lo hi w zv wv bv us zs ws bs) (ho : Only S w w') (hn : ∀ b, S b → ¬ (lo ≤ b ∧ b < hi)) : OwnM lo hi w' zv wv bv us zs ws bs :=
  ⟨own_only h.z ho (fun b hb hS => hn b hS ⟨own_lo h.z b hb, h.zh b hb⟩), h.zh, h.s.only ho hn, own_only h.b ho (fun b hb hS => hn b hS ⟨own_lo h.b b hb, h.bh b hb⟩), h.bh, h.zb, h.zc, h.zu, h.bu, h.bc⟩
def RetOwnM (zs : List Int) (ws : List (List Int)) (bs : List Int) (w : World) (e : Ending) (w' : World) : Prop :=
  ∃ zv wv bv us, e = .returned (.agg #[zv, wv, bv]) ∧ OwnM w.heap.size w'.heap.size w' zv wv bv us zs ws bs ∧ Below w.heap.size w w'

theorem OwnSS.set {lo hi : Nat} {w : World} {v : Value} {us : List Value} {ws : List (List Int)} (h : OwnSS lo hi w v us ws) {a : Addr} (ha : a.block < lo) (u : Value) : OwnSS lo hi (w.setCell a u) v us ws :=
  ⟨h.len, ownsRow_setCell_below h.row ha u, h.rowh, fun k hk => ownsRow_setCell_below (h.own k hk) ha u, h.top, h.dis, h.cd⟩
theorem OwnM.of3 {l0 l1 l2 l3 hi : Nat} {w : World} {zv wv bv : Value} {us : List Value} {zs : List Int} {ws : List (List Int)} {bs : List Int} (hz : OwnI l1 w zv zs) (hzh : ∀ b, zv.ownBlock = some b → b < l2) (hs : OwnSS l2 l3 w wv us ws) (hb : OwnI l3 w bv bs)
    (hbh : ∀ b, bv.ownBlock = some b → b < hi) (h0 : l0 ≤ l1) (h1 : l1 ≤ l2) (h2 : l2 ≤ l3) (h3 : l3 ≤ hi) : OwnM l0 hi w zv wv bv us zs ws bs :=
  ⟨own_base hz h0, fun b h => by have := hzh b h; omega, hs.wide (by omega) h3, own_base hb (by omega), hbh,
   fun b h h' => by have := hzh b h; have := own_lo hb b h'; omega,
   fun b h h' => by have := hzh b h; have := own_lo hs.row b h'; omega,
   fun k hk b h h' => by have := own_lo (hs.own k hk) b h; have := hzh b h'; omega,
   fun k hk b h h' => by have := hs.top k hk b h; have := own_lo hb b h'; omega,
   fun b h h' => by have := own_lo hb b h; have := hs.rowh b h'; omega⟩

theorem OwnM.set {lo hi : Nat} {w : World} {zv wv bv : Value} {us : List Value} {zs : List Int} {ws : List (List Int)} {bs : List Int} (h : OwnM lo hi w zv wv bv us zs ws bs) {a : Addr} (ha : a.block < lo) (u : Value) : OwnM lo hi (w.setCell a u) zv wv bv us zs ws bs :=
  ⟨ownsRow_setCell_below h.z ha u, h.zh, h.s.set ha u, ownsRow_setCell_below h.b ha u, h.bh, h.zb, h.zc, h.zu, h.bu, h.bc⟩
theorem OwnM.wide {lo hi lo' hi' : Nat} {w : World} {zv wv bv : Value} {us : List Value} {zs : List Int} {ws : List (List Int)} {bs : List Int} (h : OwnM lo hi w zv wv bv us zs ws bs) (h1 : lo' ≤ lo) (h2 : hi ≤ hi') : OwnM lo' hi' w zv wv bv us zs ws bs :=
  ⟨own_base h.z h1, fun b hb => Nat.lt_of_lt_of_le (h.zh b hb) h2, h.s.wide h1 h2, own_base h.b h1, fun b hb => Nat.lt_of_lt_of_le (h.bh b hb) h2, h.zb, h.zc, h.zu, h.bu, h.bc⟩

set_option maxHeartbeats 1600000 in
theorem toModel_c (zv wv bv : Value) (zs : List Int) (ws : List (List Int)) (bs : List Int) (w : World) (hz : Rd w zv zs.length (ints zs)) (hw : RdSS w wv ws) (hb : Rd w bv bs.length (ints bs)) (h1 : zs.length ≤ 1048576) (h2 : SzSS ws ≤ 1048576) (h3 : bs.length ≤ 1048576) :
    Calls Tryd.prog 30 #[.agg #[zv, wv, bv]] w (RetOwnM zs ws bs w) := by
  have tz := fun w' (hb' : Below w.heap.size w w') => toInt64S_c zv zs w' (hz.later hb') (by omega)
  have tw := fun w' (hb' : Below w.heap.size w w') => toInt64SS_c wv ws w' (hw.later hb') h2
  have tb := fun w' (hb' : Below w.heap.size w w') => toInt64S_c bv bs w' (hb.later hb') (by omega)
  have TZ := Lib.hid tz; clear tz
  have TW := Lib.hid tw; clear tw
  have TB := Lib.hid tb; clear tb
  clear hz hw hb h1 h2 h3
  go_enter Tryd.func30, Tryd.ntmps30
  have b0 : Below w.heap.size w w := Below.refl _ _
  have z0 : w.heap.size ≤ w.heap.size := Nat.le_refl _
  go_wp2_with fail
  refine (TZ.out _ (by go_grown)).mono ?_
  rintro _ w1 ⟨x1, rfl, n1, r1⟩
  have s1 : Below w.heap.size w w1 := Below.trans (by go_grown) (r1.mono (by simp; try omega))
  have b1 := b0.trans (s1.mono z0)
  have z1 := b1.size
  have y1 := s1.size
  have v1 : w.heap.size + 3 ≤ w1.heap.size := by have := r1.size; simp only [World.size_alloc] at this; omega
  have c0_0_1 := below_cell r1 (p := ⟨w.heap.size, 0, none⟩) (v := zv) (by simp [go_sem])
  have c0_1_1 := below_cell r1 (p := ⟨w.heap.size, 1, none⟩) (v := wv) (by simp [go_sem])
  have c0_2_1 := below_cell r1 (p := ⟨w.heap.size, 2, none⟩) (v := bv) (by simp [go_sem])
  have c1_0_1 := below_cell r1 (p := ⟨w.heap.size + 1, 0, none⟩) (v := .slice none 0 0) (by simp [go_sem])
  have c1_1_1 := below_cell r1 (p := ⟨w.heap.size + 1, 1, none⟩) (v := .slice none 0 0) (by simp [go_sem])
  have c1_2_1 := below_cell r1 (p := ⟨w.heap.size + 1, 2, none⟩) (v := .slice none 0 0) (by simp [go_sem])
  have c2_0_1 := below_cell r1 (p := ⟨w.heap.size + 1 + 1, 0, none⟩) (v := .slice none 0 0) (by simp [go_sem])
  have c2_1_1 := below_cell r1 (p := ⟨w.heap.size + 1 + 1, 1, none⟩) (v := .slice none 0 0) (by simp [go_sem])
  have c2_2_1 := below_cell r1 (p := ⟨w.heap.size + 1 + 1, 2, none⟩) (v := .slice none 0 0) (by simp [go_sem])
  have f0_1 : ∀ j, w1.frozen? ⟨w.heap.size, j, none⟩ = false := fun j => (r1.frozen (p := ⟨w.heap.size, j, none⟩) (by simp [go_sem])).trans (by simp [go_sem])
  have f1_1 : ∀ j, w1.frozen? ⟨w.heap.size + 1, j, none⟩ = false := fun j => (r1.frozen (p := ⟨w.heap.size + 1, j, none⟩) (by simp [go_sem])).trans (by simp [go_sem])
  have f2_1 : ∀ j, w1.frozen? ⟨w.heap.size + 1 + 1, j, none⟩ = false := fun j => (r1.frozen (p := ⟨w.heap.size + 1 + 1, j, none⟩) (by simp [go_sem])).trans (by simp [go_sem])
  clear r1
  obtain ⟨a1, p1, rfl⟩ := own_shape n1
  have lt1 := own_lt n1
  have LT1 := Lib.hid lt1; clear lt1
  have o1 : OwnI (w.heap.size + 3) w1 (.slice a1 zs.length p1) zs := own_base n1 (by simp)
  clear n1
  have O1 := Lib.hid o1; clear o1
  go_wp2_with fail
  obtain ⟨w2, hw2⟩ : ∃ x, x = w1.setCell ⟨w.heap.size + 1 + 1, 0, none⟩ (.slice a1 zs.length p1) := ⟨_, rfl⟩
  rw [← hw2]
  have b2 : Below w.heap.size w w2 := by rw [hw2]; exact b1.setCell (show w.heap.size ≤ w.heap.size + 1 + 1 by omega) _
  have z2 := b2.size
  have y2 : w2.heap.size = w1.heap.size := by rw [hw2]; simp
  have c0_0_2 : w2.cell? ⟨w.heap.size, 0, none⟩ = some (zv) := by rw [hw2, World.cell?_setCell_other _ _ _ _ (by simp; try omega)]; exact c0_0_1
  have c0_1_2 : w2.cell? ⟨w.heap.size, 1, none⟩ = some (wv) := by rw [hw2, World.cell?_setCell_other _ _ _ _ (by simp; try omega)]; exact c0_1_1
  have c0_2_2 : w2.cell? ⟨w.heap.size, 2, none⟩ = some (bv) := by rw [hw2, World.cell?_setCell_other _ _ _ _ (by simp; try omega)]; exact c0_2_1
  have f0_2 : ∀ j, w2.frozen? ⟨w.heap.size, j, none⟩ = false := fun j => by rw [hw2, World.frozen?_setCell]; exact f0_1 j
  have c1_0_2 : w2.cell? ⟨w.heap.size + 1, 0, none⟩ = some (.slice none 0 0) := by rw [hw2, World.cell?_setCell_other _ _ _ _ (by simp; try omega)]; exact c1_0_1
  have c1_1_2 : w2.cell? ⟨w.heap.size + 1, 1, none⟩ = some (.slice none 0 0) := by rw [hw2, World.cell?_setCell_other _ _ _ _ (by simp; try omega)]; exact c1_1_1
  have c1_2_2 : w2.cell? ⟨w.heap.size + 1, 2, none⟩ = some (.slice none 0 0) := by rw [hw2, World.cell?_setCell_other _ _ _ _ (by simp; try omega)]; exact c1_2_1
  have f1_2 : ∀ j, w2.frozen? ⟨w.heap.size + 1, j, none⟩ = false := fun j => by rw [hw2, World.frozen?_setCell]; exact f1_1 j
  have c2_0_2 : w2.cell? ⟨w.heap.size + 1 + 1, 0, none⟩ = some (.slice a1 zs.length p1) := by rw [hw2]; exact World.cell?_setCell_same _ _ _ c2_0_1
  have c2_1_2 : w2.cell? ⟨w.heap.size + 1 + 1, 1, none⟩ = some (.slice none 0 0) := by rw [hw2, World.cell?_setCell_other _ _ _ _ (by simp; try omega)]; exact c2_1_1
  have c2_2_2 : w2.cell? ⟨w.heap.size + 1 + 1, 2, none⟩ = some (.slice none 0 0) := by rw [hw2, World.cell?_setCell_other _ _ _ _ (by simp; try omega)]; exact c2_2_1
  have f2_2 : ∀ j, w2.frozen? ⟨w.heap.size + 1 + 1, j, none⟩ = false := fun j => by rw [hw2, World.frozen?_setCell]; exact f2_1 j
  clear c0_0_1
  clear c0_1_1
  clear c0_2_1
  clear f0_1
  clear c1_0_1
  clear c1_1_1
  clear c1_2_1
  clear f1_1
  clear c2_0_1
  clear c2_1_1
  clear c2_2_1
  clear f2_1
  have o1_2 : OwnI (w.heap.size + 3) w2 (.slice a1 zs.length p1) zs := by rw [hw2]; exact ownsRow_setCell_below O1.out (show w.heap.size + 1 + 1 < _ by omega) _
  have O1_2 := Lib.hid o1_2; clear o1_2
  clear hw2
  refine (TW.out _ b2).mono ?_
  rintro _ w3 ⟨x3, us, rfl, n3, r3⟩
  have s3 := r3
  have b3 := b2.trans (s3.mono z2)
  have z3 := b3.size
  have y3 := s3.size
  have k0_3 := c0_0_2
  have c0_0_3 := below_cell s3 c0_0_2; clear c0_0_2
  have c0_1_3 := below_cell s3 c0_1_2; clear c0_1_2
  have c0_2_3 := below_cell s3 c0_2_2; clear c0_2_2
  have k1_3 := c1_0_2
  have c1_0_3 := below_cell s3 c1_0_2; clear c1_0_2
  have c1_1_3 := below_cell s3 c1_1_2; clear c1_1_2
  have c1_2_3 := below_cell s3 c1_2_2; clear c1_2_2
  have k2_3 := c2_0_2
  have c2_0_3 := below_cell s3 c2_0_2; clear c2_0_2
  have c2_1_3 := below_cell s3 c2_1_2; clear c2_1_2
  have c2_2_3 := below_cell s3 c2_2_2; clear c2_2_2
  have f0_3 : ∀ j, w3.frozen? ⟨w.heap.size, j, none⟩ = false := fun j => (s3.frozen (p := ⟨w.heap.size, j, none⟩) (show w.heap.size < _ from World.block_lt_of_cell? _ ⟨w.heap.size, 0, none⟩ k0_3)).trans (f0_2 j); clear f0_2
  have f1_3 : ∀ j, w3.frozen? ⟨w.heap.size + 1, j, none⟩ = false := fun j => (s3.frozen (p := ⟨w.heap.size + 1, j, none⟩) (show w.heap.size + 1 < _ from World.block_lt_of_cell? _ ⟨w.heap.size + 1, 0, none⟩ k1_3)).trans (f1_2 j); clear f1_2
  have f2_3 : ∀ j, w3.frozen? ⟨w.heap.size + 1 + 1, j, none⟩ = false := fun j => (s3.frozen (p := ⟨w.heap.size + 1 + 1, j, none⟩) (show w.heap.size + 1 + 1 < _ from World.block_lt_of_cell? _ ⟨w.heap.size + 1 + 1, 0, none⟩ k2_3)).trans (f2_2 j); clear f2_2
  have o1_3 := own_later O1_2.out s3; have O1_3 := Lib.hid o1_3; clear o1_3
  obtain ⟨a3, p3, rfl⟩ := own_shape n3.row
  have O3 := Lib.hid n3; clear n3
  go_wp2_with fail
  obtain ⟨w4, hw4⟩ : ∃ x, x = w3.setCell ⟨w.heap.size + 1 + 1, 1, none⟩ (.slice a3 ws.length p3) := ⟨_, rfl⟩
  rw [← hw4]
  have b4 : Below w.heap.size w w4 := by rw [hw4]; exact b3.setCell (show w.heap.size ≤ w.heap.size + 1 + 1 by omega) _
  have z4 := b4.size
  have y4 : w4.heap.size = w3.heap.size := by rw [hw4]; simp
  have c0_0_4 : w4.cell? ⟨w.heap.size, 0, none⟩ = some (zv) := by rw [hw4, World.cell?_setCell_other _ _ _ _ (by simp; try omega)]; exact c0_0_3
  have c0_1_4 : w4.cell? ⟨w.heap.size, 1, none⟩ = some (wv) := by rw [hw4, World.cell?_setCell_other _ _ _ _ (by simp; try omega)]; exact c0_1_3
  have c0_2_4 : w4.cell? ⟨w.heap.size, 2, none⟩ = some (bv) := by rw [hw4, World.cell?_setCell_other _ _ _ _ (by simp; try omega)]; exact c0_2_3
  have f0_4 : ∀ j, w4.frozen? ⟨w.heap.size, j, none⟩ = false := fun j => by rw [hw4, World.frozen?_setCell]; exact f0_3 j
  have c1_0_4 : w4.cell? ⟨w.heap.size + 1, 0, none⟩ = some (.slice none 0 0) := by rw [hw4, World.cell?_setCell_other _ _ _ _ (by simp; try omega)]; exact c1_0_3
  have c1_1_4 : w4.cell? ⟨w.heap.size + 1, 1, none⟩ = some (.slice none 0 0) := by rw [hw4, World.cell?_setCell_other _ _ _ _ (by simp; try omega)]; exact c1_1_3
  have c1_2_4 : w4.cell? ⟨w.heap.size + 1, 2, none⟩ = some (.slice none 0 0) := by rw [hw4, World.cell?_setCell_other _ _ _ _ (by simp; try omega)]; exact c1_2_3
  have f1_4 : ∀ j, w4.frozen? ⟨w.heap.size + 1, j, none⟩ = false := fun j => by rw [hw4, World.frozen?_setCell]; exact f1_3 j
  have c2_0_4 : w4.cell? ⟨w.heap.size + 1 + 1, 0, none⟩ = some (.slice a1 zs.length p1) := by rw [hw4, World.cell?_setCell_other _ _ _ _ (by simp; try omega)]; exact c2_0_3
  have c2_1_4 : w4.cell? ⟨w.heap.size + 1 + 1, 1, none⟩ = some (.slice a3 ws.length p3) := by rw [hw4]; exact World.cell?_setCell_same _ _ _ c2_1_3
  have c2_2_4 : w4.cell? ⟨w.heap.size + 1 + 1, 2, none⟩ = some (.slice none 0 0) := by rw [hw4, World.cell?_setCell_other _ _ _ _ (by simp; try omega)]; exact c2_2_3
  have f2_4 : ∀ j, w4.frozen? ⟨w.heap.size + 1 + 1, j, none⟩ = false := fun j => by rw [hw4, World.frozen?_setCell]; exact f2_3 j
  clear c0_0_3
  clear c0_1_3
  clear c0_2_3
  clear f0_3
  clear c1_0_3
  clear c1_1_3
  clear c1_2_3
  clear f1_3
  clear c2_0_3
  clear c2_1_3
  clear c2_2_3
  clear f2_3
  have o1_4 : OwnI (w.heap.size + 3) w4 (.slice a1 zs.length p1) zs := by rw [hw4]; exact ownsRow_setCell_below O1_3.out (show w.heap.size + 1 + 1 < _ by omega) _
  have O1_4 := Lib.hid o1_4; clear o1_4
  have o3_4 : OwnSS w2.heap.size w3.heap.size w4 (.slice a3 ws.length p3) us ws := by rw [hw4]; exact O3.out.set (show w.heap.size + 1 + 1 < _ by omega) _
  have O3_4 := Lib.hid o3_4; clear o3_4
  clear hw4
  refine (TB.out _ b4).mono ?_
  rintro _ w5 ⟨x5, rfl, n5, r5⟩
  have s5 := r5
  have b5 := b4.trans (s5.mono z4)
  have z5 := b5.size
  have y5 := s5.size
  have k0_5 := c0_0_4
  have c0_0_5 := below_cell s5 c0_0_4; clear c0_0_4
  have c0_1_5 := below_cell s5 c0_1_4; clear c0_1_4
  have c0_2_5 := below_cell s5 c0_2_4; clear c0_2_4
  have k1_5 := c1_0_4
  have c1_0_5 := below_cell s5 c1_0_4; clear c1_0_4
  have c1_1_5 := below_cell s5 c1_1_4; clear c1_1_4
  have c1_2_5 := below_cell s5 c1_2_4; clear c1_2_4
  have k2_5 := c2_0_4
  have c2_0_5 := below_cell s5 c2_0_4; clear c2_0_4
  have c2_1_5 := below_cell s5 c2_1_4; clear c2_1_4
  have c2_2_5 := below_cell s5 c2_2_4; clear c2_2_4
  have f0_5 : ∀ j, w5.frozen? ⟨w.heap.size, j, none⟩ = false := fun j => (s5.frozen (p := ⟨w.heap.size, j, none⟩) (show w.heap.size < _ from World.block_lt_of_cell? _ ⟨w.heap.size, 0, none⟩ k0_5)).trans (f0_4 j); clear f0_4
  have f1_5 : ∀ j, w5.frozen? ⟨w.heap.size + 1, j, none⟩ = false := fun j => (s5.frozen (p := ⟨w.heap.size + 1, j, none⟩) (show w.heap.size + 1 < _ from World.block_lt_of_cell? _ ⟨w.heap.size + 1, 0, none⟩ k1_5)).trans (f1_4 j); clear f1_4
  have f2_5 : ∀ j, w5.frozen? ⟨w.heap.size + 1 + 1, j, none⟩ = false := fun j => (s5.frozen (p := ⟨w.heap.size + 1 + 1, j, none⟩) (show w.heap.size + 1 + 1 < _ from World.block_lt_of_cell? _ ⟨w.heap.size + 1 + 1, 0, none⟩ k2_5)).trans (f2_4 j); clear f2_4
  have o1_5 := own_later O1_4.out s5; have O1_5 := Lib.hid o1_5; clear o1_5
  have o3_5 := O3_4.out.later s5; have O3_5 := Lib.hid o3_5; clear o3_5
  obtain ⟨a5, p5, rfl⟩ := own_shape n5
  have lt5 := own_lt n5
  have LT5 := Lib.hid lt5; clear lt5
  have O5 := Lib.hid n5; clear n5
  go_wp2_with fail
  have hM : OwnM (w.heap.size + 3) w5.heap.size w5 (.slice a1 zs.length p1) (.slice a3 ws.length p3) (.slice a5 bs.length p5) us zs ws bs :=
    OwnM.of3 O1_5.out (fun b h => by have := LT1.out b h; omega) (O3_5.out.wide (Nat.le_refl _) (show w3.heap.size ≤ w4.heap.size by omega)) O5.out LT5.out (Nat.le_refl _) (by omega) (by omega) (by omega)
  have HM := Lib.hid hM; clear hM
  refine bodyPost_ret (v := .agg #[.slice a1 zs.length p1, .slice a3 ws.length p3, .slice a5 bs.length p5]) (by simp [results, Tryd.results30, go_sem, *]) rfl ?_
  refine ⟨_, _, _, us, rfl, ((((HM.out.set ?_ _).set ?_ _).set ?_ _).set ?_ _).wide (by omega) (by simp), ((((b5.setCell ?_ _).setCell ?_ _).setCell ?_ _).setCell ?_ _)⟩
  all_goals (simp; try omega)

set_option maxHeartbeats 800000 in
theorem eqModel_c (zv wv bv zv' wv' bv' : Value) (zs : List Int) (ws : List (List Int)) (bs : List Int) (w : World) (hz : Rd w zv zs.length (ints zs)) (hw : RdSS w wv ws) (hb : Rd w bv bs.length (ints bs))
    (hz' : Rd w zv' zs.length (ints zs)) (hw' : RdSS w wv' ws) (hb' : Rd w bv' bs.length (ints bs)) :
    Calls Tryd.prog 12 #[.agg #[zv, wv, bv], .agg #[zv', wv', bv']] w (RetB (.bool true) w) := by
  have ez := fun w' (h : Below w.heap.size w w') => eqInt64S_c zv zv' zs zs w' (hz.later h) (hz'.later h)
  have ew := fun w' (h : Below w.heap.size w w') => eqInt64SS_c wv wv' ws ws w' (hw.later h) (hw'.later h)
  have eb := fun w' (h : Below w.heap.size w w') => eqInt64S_c bv bv' bs bs w' (hb.later h) (hb'.later h)
  rw [eqZs_refl] at ez eb
  rw [eqWs_refl] at ew
  have EZ := Lib.hid ez; clear ez
  have EW := Lib.hid ew; clear ew
  have EB := Lib.hid eb; clear eb
  clear hz hw hb hz' hw' hb'
  go_enter Tryd.func12, Tryd.ntmps12
  have b0 : Below w.heap.size w w := Below.refl _ _
  have z0 : w.heap.size ≤ w.heap.size := Nat.le_refl _
  go_wp2_with fail
  refine (EZ.out _ (by go_grown)).mono ?_
  rintro _ w1 ⟨rfl, d1⟩
  have r1 := Dr.below d1; clear d1
  have s1 : Below w.heap.size w w1 := Below.trans (by go_grown) (r1.mono (by simp; try omega))
  have b1 := b0.trans (s1.mono z0)
  have z1 := b1.size
  have y1 := s1.size
  have c0_0_1 := below_cell r1 (p := ⟨w.heap.size, 0, none⟩) (v := zv) (by simp [go_sem])
  have c0_1_1 := below_cell r1 (p := ⟨w.heap.size, 1, none⟩) (v := wv) (by simp [go_sem])
  have c0_2_1 := below_cell r1 (p := ⟨w.heap.size, 2, none⟩) (v := bv) (by simp [go_sem])
  have c1_0_1 := below_cell r1 (p := ⟨w.heap.size + 1, 0, none⟩) (v := zv') (by simp [go_sem])
  have c1_1_1 := below_cell r1 (p := ⟨w.heap.size + 1, 1, none⟩) (v := wv') (by simp [go_sem])
  have c1_2_1 := below_cell r1 (p := ⟨w.heap.size + 1, 2, none⟩) (v := bv') (by simp [go_sem])
  clear r1
  go_wp2_with fail
  refine (EW.out _ b1).mono ?_
  rintro _ w2 ⟨rfl, d2⟩
  have r2 := Dr.below d2; clear d2
  have s2 := r2
  have b2 := b1.trans (s2.mono z1)
  have z2 := b2.size
  have y2 := s2.size
  have c0_0_2 := below_cell s2 c0_0_1; clear c0_0_1
  have c0_1_2 := below_cell s2 c0_1_1; clear c0_1_1
  have c0_2_2 := below_cell s2 c0_2_1; clear c0_2_1
  have c1_0_2 := below_cell s2 c1_0_1; clear c1_0_1
  have c1_1_2 := below_cell s2 c1_1_1; clear c1_1_1
  have c1_2_2 := below_cell s2 c1_2_1; clear c1_2_1
  clear r2
  go_wp2_with fail
  refine (EB.out _ b2).mono ?_
  rintro _ w3 ⟨rfl, d3⟩
  have r3 := Dr.below d3; clear d3
  have s3 := r3
  have b3 := b2.trans (s3.mono z2)
  have z3 := b3.size
  have y3 := s3.size
  have c0_0_3 := below_cell s3 c0_0_2; clear c0_0_2
  have c0_1_3 := below_cell s3 c0_1_2; clear c0_1_2
  have c0_2_3 := below_cell s3 c0_2_2; clear c0_2_2
  have c1_0_3 := below_cell s3 c1_0_2; clear c1_0_2
  have c1_1_3 := below_cell s3 c1_1_2; clear c1_1_2
  have c1_2_3 := below_cell s3 c1_2_2; clear c1_2_2
  clear r3
  go_wp2
  go_returns
  exact RetB.mk (rfl) b3

end Go.Proofs.YtgdadbmhdljcdaaDoor
