/- A ring is inserted: the reference's l05With. -/
import Derived.Test.YtjlenafdpoknhaaInsI
namespace Go.Proofs.Ytjlenafdpoknhaa
set_option linter.unusedVariables false
open Go.RowKit Go.Proofs.Bell Go.BigFrame

structure WSt (g R : Nat) (nm : ByteArray) (u v : Value) (qs : List (Int × Int × Int)) (w wr : World) : Prop where
  below : Below w.heap.size w wr
  hg : g < w.heap.size
  hR : w.heap.size ≤ R
  hz : R + 1 ≤ wr.heap.size
  r0 : wr.cell? ⟨R, 0, none⟩ = some (.string ⟨#[]⟩)
  r1 : wr.cell? ⟨R, 1, none⟩ = some (.slice none 0 0)
  rf : ∀ j, wr.frozen? ⟨R, j, none⟩ = false
  p0 : wr.cell? ⟨g, 0, none⟩ = some (.string nm)
  p1 : wr.cell? ⟨g, 1, none⟩ = some u
  own : OwnR (R + 1) wr v qs
theorem WSt.step {g R : Nat} {nm : ByteArray} {u v v' : Value} {qs qs' : List (Int × Int × Int)} {w wr w1 : World} (h : WSt g R nm u v qs w wr) (o : OwnR (R + 1) w1 v' qs') (q : Only (fun b => v.ownBlock = some b) wr w1) : WSt g R nm u v' qs' w w1 := by
  have h1 := h.hg; have h2 := h.hR; have h3 := h.hz
  have lo := own_lo h.own
  have nR : ¬ v.ownBlock = some R := fun e => by have := lo R e; omega
  have ng : ¬ v.ownBlock = some g := fun e => by have := lo g e; omega
  exact ⟨Only.below h.below q h.below.size (fun b e => by have := lo b e; omega), h1, h2, Nat.le_trans h3 q.size, cell_only q h.r0 nR, cell_only q h.r1 nR, fun j => (frozen_only q (p := ⟨R, j, none⟩) (show R < _ by omega) nR).trans (h.rf j), cell_only q h.p0 ng, cell_only q h.p1 ng, o⟩
theorem WSt.fin {g R : Nat} {nm : ByteArray} {u v : Value} {qs : List (Int × Int × Int)} {w wr : World} (h : WSt g R nm u v qs w wr) : OwnR w.heap.size ((wr.setCell ⟨R, 0, none⟩ (.string nm)).setCell ⟨R, 1, none⟩ v) v qs ∧ Below w.heap.size w ((wr.setCell ⟨R, 0, none⟩ (.string nm)).setCell ⟨R, 1, none⟩ v) := by
  have h2 := h.hR
  have lo := own_lo h.own
  have nR : ∀ k, v.ownBlock = some k → R ≠ k := fun k e => by have := lo k e; omega
  exact ⟨own_base (own_set (own_set h.own nR _) nR _) (by omega), (h.below.setCell h2 _).setCell h2 _⟩

set_option maxRecDepth 100000 in
set_option maxHeartbeats 1600000 in
theorem l05With_c (g i : Nat) (nm : ByteArray) (sv : Value) (ps : List (Int × Int × Int)) (a b c : Int) (w : World) (c0 : w.cell? ⟨g, 0, none⟩ = some (.string nm)) (c1 : w.cell? ⟨g, 1, none⟩ = some sv) (hr : Rd w sv ps.length (trips ps)) (hl1 : 1 ≤ ps.length) (hl2 : ps.length ≤ 1000) (hi : i ≤ ps.length) :
    Calls Try.prog 32 #[.pointer (some ⟨g, 0, none⟩), .int .i64 i, .agg #[.int .i64 a, .int .i64 b, .int .i64 c]] w (RetOwnP nm (insL ps i (a, b, c)) w) := by
  have hg := World.block_lt_of_cell? w _ c0
  simp only at hg
  have hrc := fun ao cap (e : sv = .slice ao ps.length cap) => rd_cap (ao := ao) (cap := cap) (n := ps.length) (n' := ps.length) (xs := trips ps) (w := w) (by rw [← e]; exact hr)
  obtain ⟨hcap, ao, cap, bb, off, rfl, hao, hcell⟩ := hr.open
  have hnc := hrc _ _ rfl
  clear hrc
  obtain rfl : ao = some ⟨bb, off, none⟩ := hao (by omega)
  have hrt := rd_take (w := w) (ps := ps) (fun w' hb j u h1 h2 => hcell w' hb j u (by omega) h2) i
  have hrd := rd_drop (w := w) (ps := ps) (fun w' hb j u h1 h2 => hcell w' hb j u (by omega) h2) i
  have hlt : (ps.take i).length = i := by rw [List.length_take]; omega
  have hld : (ps.drop i).length = ps.length - i := by rw [List.length_drop]
  have hic : i ≤ cap := by omega
  obtain ⟨A, hA, hra⟩ : ∃ A : Addr, (if cap = i then some (⟨bb, off, none⟩ : Addr) else some ⟨bb, off + i * 3, none⟩) = some A ∧ Hid (∀ w', Below w.heap.size w w' → ∀ j u, (trips (ps.drop i))[j]? = some u → w'.cell? (A.add j) = some u) := by
    by_cases hc : cap = i
    · refine ⟨⟨bb, off, none⟩, by simp [hc], Lib.hid fun w' _ j u hj => ?_⟩
      rw [List.drop_of_length_le (by omega)] at hj
      simp [trips] at hj
    · exact ⟨_, by rw [if_neg hc], Lib.hid hrd⟩
  have HRT := Lib.hid hrt; clear hrt
  have HLT := Lib.hid hlt; clear hlt
  have HLD := Lib.hid hld; clear hld
  clear hr hcell hao hrd
  have d0 := fun o => alloc_cell o c0
  have d1 := fun o => alloc_cell o c1
  have dd0 := fun o o' o'' => alloc_cell o'' (alloc_cell o' (alloc_cell o c0))
  have dd1 := fun o o' o'' => alloc_cell o'' (alloc_cell o' (alloc_cell o c1))
  have hll : (ps.take i ++ [(a, b, c)] ++ ps.drop i) = insL ps i (a, b, c) := by simp [insL]
  have HLL := Lib.hid hll; clear hll
  have hl4 : (ps.take i ++ [(a, b, c)] ++ ps.drop i).length = ps.length + 1 := by simp; omega
  have HL4 := Lib.hid hl4; clear hl4
  go_enter Try.func32, Try.ntmps32
  go_upto_region 2 with (at_builtin; refine appA_R (.tmp 8) (.tmp 14) _ (w.heap.size + 1 + 1) _ [] (ps.take i) ⟨bb, off, none⟩ i cap (by rfl) (by rfl) (by rfl) (by rfl) HLT.out (own_empty2 _ _ _ _ (w.heap.size + 1 + 1) (by simp) (by simp)) (HRT.out _ (by go_grown)) (Nat.zero_le _) (by omega) (by simp) ?_; intro v2 w2 o2 q2)
  have qn : ∀ b, (fun b => (Value.slice (some ⟨w.heap.size + 1 + 1, 0, none⟩) 0 0).ownBlock = some b) b → w.heap.size + 1 + 1 = b := fun b e => by simpa [Value.ownBlock] using e
  have zq := q2.size
  simp only [World.size_alloc] at zq
  have st : WSt g (w.heap.size + 1) nm (.slice (some ⟨bb, off, none⟩) ps.length cap) v2 (ps.take i) w w2 := ⟨Only.below (by go_grown) q2 (by simp; omega) (fun b e => by have := qn b e; omega), hg, by omega, by omega, cell_only q2 (by simp [go_sem]) (fun e => by have := qn _ e; simp at this), cell_only q2 (by simp [go_sem]) (fun e => by have := qn _ e; simp at this), (fun j => (frozen_only q2 (p := ⟨w.heap.size + 1, j, none⟩) (by simp; try omega) (fun e => by have := qn _ e; simp at this)).trans (by simp [go_sem])), cell_only q2 (dd0 _ _ _) (fun e => by have := qn _ e; simp at this; omega), cell_only q2 (dd1 _ _ _) (fun e => by have := qn _ e; simp at this; omega), by simpa using o2⟩
  have k0 := cell_only q2 (p := ⟨w.heap.size, 0, none⟩) (v := .int .i64 a) (by simp [go_sem]) (fun e => by have := qn _ e; simp at this; omega)
  have k1 := cell_only q2 (p := ⟨w.heap.size, 1, none⟩) (v := .int .i64 b) (by simp [go_sem]) (fun e => by have := qn _ e; simp at this; omega)
  have k2 := cell_only q2 (p := ⟨w.heap.size, 2, none⟩) (v := .int .i64 c) (by simp [go_sem]) (fun e => by have := qn _ e; simp at this; omega)
  clear q2 qn o2 zq d0 d1 dd0 dd1
  have so := st.own
  obtain ⟨av, cv, hv⟩ := own_shape so
  rw [HLT.out] at hv
  subst hv
  have SO := Lib.hid so; clear so
  have sz := st.hz
  have ST := Lib.hid st; clear st
  go_upto_region 3 with (at_builtin; refine app_R (.tmp 16) (.tmp 18) w2 (w.heap.size + 1 + 1) _ (ps.take i) a b c (by rfl) (by rfl) (by rfl) (by rfl) SO.out (by rw [HLT.out]; omega) (by omega) ?_; intro v3 w3 o3 q3)
  have st3 := ST.out.step o3 q3
  clear ST SO o3 q3 k0 k1 k2
  obtain ⟨a3, c3, hv⟩ := own_shape st3.own
  rw [show (ps.take i ++ [(a, b, c)]).length = i + 1 by simp; omega] at hv
  subst hv
  have p0 := st3.p0
  have p1 := st3.p1
  have r0 := st3.r0
  have r1 := st3.r1
  have rf := st3.rf
  have b3 := st3.below
  have o3 := st3.own
  have z3 := st3.hz
  have O3 := Lib.hid o3; clear o3
  have ST3 := Lib.hid st3; clear st3
  go_region_law (refine sappA_R (.tmp 24) (.tmp 30) _ (w.heap.size + 1 + 1) _ (ps.take i ++ [(a, b, c)]) (ps.drop i) A (ps.length - i) (cap - i) (by rfl) (by rfl) (by rfl) (by simp [Act.eval, Act.put]) HLD.out (by first | exact O3.out | exact own_later O3.out (by go_grown)) (hra.out _ (b3.trans (Below.mono (by go_grown) b3.size))) (by simp; omega) (by omega) (by simp; omega) ?_; intro v4 w4 o4 q4; have st4 := ST3.out.step o4 ((Only.of_below (by go_grown)).trans q4); obtain ⟨a4, c4, hv⟩ := own_shape o4; rw [HL4.out] at hv; subst hv; have p0 := st4.p0; have p1 := st4.p1; have r0 := st4.r0; have r1 := st4.r1; have rf := st4.rf; have ST4 := Lib.hid st4; clear st4; clear o4 q4)
  all_goals (
    have hfin := ST4.out.fin
    rw [HLL.out] at hfin
    have HFIN := Lib.hid hfin; clear hfin
    go_wp2
    refine bodyPost_ret (v := .agg #[.string nm, .slice a4 (ps.length + 1) c4]) (by simp [results, Try.results32, go_sem, r0, r1]) rfl ?_
    exact ⟨_, rfl, HFIN.out.1, HFIN.out.2⟩)

end Go.Proofs.Ytjlenafdpoknhaa
