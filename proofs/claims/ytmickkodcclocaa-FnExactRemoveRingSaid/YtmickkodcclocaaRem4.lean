/- A ring is removed: the reference's side. -/
import Derived.Test.YtmickkodcclocaaGF
import Derived.Test.YtmickkodcclocaaRem3
import Derived.Deep.Cut
import Derived.Deep.CutRange
import Derived.Deep.DeepCutAuto
namespace Go.Proofs.Ytmickkodcclocaa
set_option linter.unusedVariables false
open Go.RowKit Go.Proofs.Bell Go.BigFrame

/-- append of what lies at an address, onto a list of one's own: maybe nothing -/
theorem wappA_R {o : Oper} {a : Act} {K : Act → World → Prop} {Q : Exit → Act → World → Prop} (s x : Operand) (W : World) (base : Nat) (v : Value) (qs rs : List (Int × Int × Int)) (ad : Addr) (m c : Nat)
    (ho : o.op = .call { callee := .builtin .append, args := #[s, x], argTypes := #[26, 26] })
    (hs : a.eval s = v) (hx : a.eval x = .slice (some ad) m c) (hm : rs.length = m) (hown : OwnR base W v qs) (hrd : ∀ j u, (trips rs)[j]? = some u → W.cell? (ad.add j) = some u) (hn : qs.length ≤ 1000000) (hm1 : m ≤ 1000000) (hbase : base ≤ W.heap.size)
    (h : ∀ v' w', OwnR base w' v' (qs ++ rs) → Only (fun b => v.ownBlock = some b) W w' → K (a.put o.dst v') w') : o.wp Try.prog a W K Q := by
  subst hm
  obtain ⟨i0, hi, hz0, hz1, hz2⟩ := info_parts info_Ring
  refine wp_append_own W s x 26 ho base 80 i0 _ 3 24 Try.underlying26 hi hz0 hz1 hz2 rfl (by decide) v qs.length (trips qs) hs hown ad rs.length c (trips rs) hx (trips_len rs) hrd (fun u hu => ?_) (by unfold maxLen; omega) (by omega) hbase ?_
  · obtain ⟨p, _, hp⟩ := List.mem_flatMap.1 hu
    simp at hp
    rcases hp with rfl | rfl | rfl <;> rfl
  · intro v' w' ho' hg _
    refine h v' w' ?_ (Only.of_grown hg)
    unfold OwnR
    rw [List.length_append, trips_app]
    exact ho'
theorem appA_R {ops : Array Oper} {rest : List Oper} {o : Oper} {a : Act} {Q : Exit → Act → World → Prop} (s x : Operand) (W : World) (base : Nat) (v : Value) (qs rs : List (Int × Int × Int)) (ad : Addr) (m c : Nat)
    (ho : o.op = .call { callee := .builtin .append, args := #[s, x], argTypes := #[26, 26] }) (hgd : o.guard = none)
    (hs : a.eval s = v) (hx : a.eval x = .slice (some ad) m c) (hm : rs.length = m) (hown : OwnR base W v qs) (hrd : ∀ j u, (trips rs)[j]? = some u → W.cell? (ad.add j) = some u) (hn : qs.length ≤ 1000000) (hm1 : m ≤ 1000000) (hbase : base ≤ W.heap.size)
    (h : ∀ v' w', OwnR base w' v' (qs ++ rs) → Only (fun b => v.ownBlock = some b) W w' → wpList Try.prog ops Q rest (a.put o.dst v') w') : wpList Try.prog ops Q (o :: rest) a W :=
  wpList_plain hgd fun _ hK => wappA_R s x W base v qs rs ad m c ho hs hx hm hown hrd hn hm1 hbase fun v' w' h2 h3 => hK _ _ (h v' w' h2 h3)
theorem sappA_R {ops : Array Oper} {o : Oper} {a : Act} {K : Act → World → Prop} {Q : Exit → Act → World → Prop} {E : Prop} (s x : Operand) (W : World) (base : Nat) (v : Value) (qs rs : List (Int × Int × Int)) (ad : Addr) (m c : Nat)
    (ho : o.op = .call { callee := .builtin .append, args := #[s, x], argTypes := #[26, 26] }) (hgd : o.guard = none)
    (hs : a.eval s = v) (hx : a.eval x = .slice (some ad) m c) (hm : rs.length = m) (hown : OwnR base W v qs) (hrd : ∀ j u, (trips rs)[j]? = some u → W.cell? (ad.add j) = some u) (hn : qs.length ≤ 1000000) (hm1 : m ≤ 1000000) (hbase : base ≤ W.heap.size)
    (h : ∀ v' w', OwnR base w' v' (qs ++ rs) → Only (fun b => v.ownBlock = some b) W w' → K (a.put o.dst v') w') :
    if Region.wanted o (yielded ops a.tmps) = true then Oper.wp Try.prog o a W K Q else E := by
  have hw : Region.wanted o (yielded ops a.tmps) = true := by simp [Region.wanted, hgd]
  rw [if_pos hw]
  exact wappA_R s x W base v qs rs ad m c ho hs hx hm hown hrd hn hm1 hbase h
/-- the cells of a list from an element on, and ahead of one -/
theorem rd_drop {w : World} {b off : Nat} {ps : List (Int × Int × Int)} (h : ∀ w', Below w.heap.size w w' → ∀ j u, j < ps.length * 3 → (trips ps)[j]? = some u → w'.cell? ⟨b, off + j, none⟩ = some u) (k : Nat) :
    ∀ w', Below w.heap.size w w' → ∀ j u, (trips (ps.drop k))[j]? = some u → w'.cell? ((⟨b, off + k * 3, none⟩ : Addr).add j) = some u := fun w' hb j u hu => by
  have h1 := (List.getElem?_eq_some_iff.1 hu).1
  rw [trips_len, List.length_drop] at h1
  rw [← trips_drop, List.getElem?_drop] at hu
  rw [add_norm _ rfl, show off + k * 3 + j = off + (k * 3 + j) by omega]
  exact h w' hb _ u (by omega) hu
theorem rd_take {w : World} {b off : Nat} {ps : List (Int × Int × Int)} (h : ∀ w', Below w.heap.size w w' → ∀ j u, j < ps.length * 3 → (trips ps)[j]? = some u → w'.cell? ⟨b, off + j, none⟩ = some u) (k : Nat) :
    ∀ w', Below w.heap.size w w' → ∀ j u, (trips (ps.take k))[j]? = some u → w'.cell? ((⟨b, off, none⟩ : Addr).add j) = some u := fun w' hb j u hu => by
  have h1 := (List.getElem?_eq_some_iff.1 hu).1
  rw [← trips_take, List.length_take, trips_len] at h1
  rw [← trips_take, List.getElem?_take, if_pos (by omega)] at hu
  rw [add_norm _ rfl]
  exact h w' hb j u (by omega) hu

theorem own_kind {w : World} {B : Nat} {e : TypeId} {size : Nat} {v : Value} {n : Nat} {xs : List Value} (h : w.ownsRow B e size v n xs) : ∀ g, v.ownBlock = some g → ∃ c fz, w.heap[g]? = some (.cells c e fz) := by
  intro g hg
  rcases h.2 with ⟨rfl, _⟩ | ⟨g', cap, cur, rfl, _, hgg, _⟩
  · simp [Value.ownBlock] at hg
  · simp [Value.ownBlock] at hg
    subst hg
    exact ⟨cur, (0, 0), hgg⟩
/-- a row of one's own lies in no profile's box -/
theorem own_ne {w : World} {B : Nat} {v : Value} {qs : List (Int × Int × Int)} {g : Nat} {cs : Array Value} {fz : Nat × Nat} (h : OwnR B w v qs) (hg : w.heap[g]? = some (.cells cs 28 fz)) : ∀ k, v.ownBlock = some k → g ≠ k := by
  rintro k hk rfl
  obtain ⟨c, f2, h2⟩ := own_kind h g hk
  rw [hg] at h2
  simp at h2
/-- the profile's box, wherever it was made: what is known of it -/
structure PrBox (R G : Nat) (nm : ByteArray) (v : Value) (qs : List (Int × Int × Int)) (w wx : World) : Prop where
  below : Below w.heap.size w wx
  r0 : wx.cell? ⟨R, 0, none⟩ = some (.string ⟨#[]⟩)
  r1 : wx.cell? ⟨R, 1, none⟩ = some (.slice none 0 0)
  rf : ∀ j, wx.frozen? ⟨R, j, none⟩ = false
  q0 : wx.cell? ⟨G, 0, none⟩ = some (.string nm)
  q1 : wx.cell? ⟨G, 1, none⟩ = some v
  own : OwnR (R + 1) wx v qs
theorem PrBox.late {R : Nat} {nm : ByteArray} {v : Value} {qs : List (Int × Int × Int)} {w w3 : World} (b : Below w.heap.size w w3) (r0 : w3.cell? ⟨R, 0, none⟩ = some (.string ⟨#[]⟩)) (r1 : w3.cell? ⟨R, 1, none⟩ = some (.slice none 0 0)) (rf : ∀ j, w3.frozen? ⟨R, j, none⟩ = false) (o : OwnR (R + 1) w3 v qs) :
    PrBox R w3.heap.size nm v qs w (w3.alloc (.cells #[.string nm, v] 28)) :=
  ⟨b.alloc b.size _, alloc_cell _ r0, alloc_cell _ r1, fun j => (alloc_frozen _ (show R < _ from World.block_lt_of_cell? _ ⟨R, 0, none⟩ r0)).trans (rf j), by simp [go_sem], by simp [go_sem], own_later o ((Below.refl _ _).alloc (Nat.le_refl _) _)⟩
theorem PrBox.early {R G : Nat} {nm : ByteArray} {v : Value} {qs : List (Int × Int × Int)} {w w3 : World} {cs : Array Value} {fz : Nat × Nat} (b : Below w.heap.size w w3) (r0 : w3.cell? ⟨R, 0, none⟩ = some (.string ⟨#[]⟩)) (r1 : w3.cell? ⟨R, 1, none⟩ = some (.slice none 0 0)) (rf : ∀ j, w3.frozen? ⟨R, j, none⟩ = false) (o : OwnR (R + 1) w3 v qs)
    (hg : w3.heap[G]? = some (.cells cs 28 fz)) (hR : R < G) (hw : w.heap.size ≤ G) {u0 u1 : Value} (g0 : w3.cell? ⟨G, 0, none⟩ = some u0) (g1 : w3.cell? ⟨G, 1, none⟩ = some u1) :
    PrBox R G nm v qs w ((w3.setCell ⟨G, 0, none⟩ (.string nm)).setCell ⟨G, 1, none⟩ v) := by
  have hn := own_ne o hg
  refine ⟨(b.setCell hw _).setCell hw _, ?_, ?_, fun j => by rw [World.frozen?_setCell, World.frozen?_setCell]; exact rf j, ?_, ?_, own_set (own_set o (fun k hk => hn k hk) _) (fun k hk => hn k hk) _⟩
  · rw [World.cell?_setCell_other _ _ _ _ (by simp; try omega), World.cell?_setCell_other _ _ _ _ (by simp; try omega)]; exact r0
  · rw [World.cell?_setCell_other _ _ _ _ (by simp; try omega), World.cell?_setCell_other _ _ _ _ (by simp; try omega)]; exact r1
  · rw [World.cell?_setCell_other _ _ _ _ (by simp)]; exact World.cell?_setCell_same _ _ _ g0
  · exact World.cell?_setCell_same _ _ _ (by rw [World.cell?_setCell_other _ _ _ _ (by simp)]; exact g1)

set_option maxRecDepth 100000 in
set_option maxHeartbeats 3200000 in
theorem specRemoveRing_c (nm : ByteArray) (sv : Value) (ps : List (Int × Int × Int)) (k : Int) (w : World) (hnm : nm.size ≤ maxLen) (hr : Rd w sv ps.length (trips ps)) :
    Calls Try.prog 37 #[.agg #[.string nm, sv], .int .i64 k] w (RetP2 (remI nm ps k).1 (remI nm ps k).2.1 (.int .i64 (remI nm ps k).2.2) w) := by
  have hok := fun w' g hg c0 c1 (hb : Below w.heap.size w w') => l05Ok_c g nm sv ps w' hg hnm c0 c1 (hr.later hb)
  cases t0 : profB nm ps <;> rw [t0] at hok
  · have he : remI nm ps k = (⟨#[]⟩, [], 1) := by simp [remI, t0]
    rw [he]
    have HOK := Lib.hid hok; clear hok
    clear he hr
    go_enter Try.func37, Try.ntmps37
    have b0 : Below w.heap.size w w := Below.refl _ _
    have z0 : w.heap.size ≤ w.heap.size := Nat.le_refl _
    go_wp2_with fail
    refine (HOK.out _ _ (by simp; try omega) (by simp [go_sem]) (by simp [go_sem]) (by go_grown)).mono ?_
    rintro _ w1 ⟨rfl, d1⟩
    have r1 := Dr.below d1; clear d1
    have s1 : Below w.heap.size w w1 := Below.trans (by go_grown) (r1.mono (by simp; try omega))
    have b1 := b0.trans (s1.mono z0)
    have z1 := b1.size
    have y1 := s1.size
    have v1 : w.heap.size + 2 ≤ w1.heap.size := by have := r1.size; simp only [World.size_alloc] at this; omega
    have c0_0_1 := below_cell r1 (p := ⟨w.heap.size, 0, none⟩) (v := .string nm) (by simp [go_sem])
    have c0_1_1 := below_cell r1 (p := ⟨w.heap.size, 1, none⟩) (v := sv) (by simp [go_sem])
    have c1_0_1 := below_cell r1 (p := ⟨w.heap.size + 1, 0, none⟩) (v := .string ⟨#[]⟩) (by simp [go_sem])
    have c1_1_1 := below_cell r1 (p := ⟨w.heap.size + 1, 1, none⟩) (v := .slice none 0 0) (by simp [go_sem])
    have f0_1 : ∀ j, w1.frozen? ⟨w.heap.size, j, none⟩ = false := fun j => (r1.frozen (p := ⟨w.heap.size, j, none⟩) (by simp [go_sem])).trans (by simp [go_sem])
    have f1_1 : ∀ j, w1.frozen? ⟨w.heap.size + 1, j, none⟩ = false := fun j => (r1.frozen (p := ⟨w.heap.size + 1, j, none⟩) (by simp [go_sem])).trans (by simp [go_sem])
    clear r1
    go_wp2
    refine bodyPost_ret (v := .tuple #[.agg #[.string ⟨#[]⟩, .slice none 0 0], .int .i64 1]) (by simp [results, Try.results37, go_sem, c1_0_1, c1_1_1]) rfl ?_
    exact RetP2.nil (Below.setCell (Below.setCell b1 (show w.heap.size ≤ w.heap.size + 1 by omega) _) (show w.heap.size ≤ w.heap.size + 1 by omega) _)
  · have HOK := Lib.hid hok; clear hok
    obtain ⟨hl1, hl2, hal, hht⟩ := profB_t t0
    have hin := fun w' => l00In_c k 0 ((ps.length : Int) - 1) w'
    have hw1 : IntKind.i64.wrap ((ps.length : Int) - 1) = (ps.length : Int) - 1 := IntWalk.i64_in _ (by omega)
    cases t1 : inB k 0 ((ps.length : Int) - 1) <;> rw [t1] at hin
    · have he : remI nm ps k = (⟨#[]⟩, [], 2) := by simp [remI, t0, t1]
      rw [he]
      have HIN := Lib.hid hin; clear hin
      obtain ⟨_, ao, cap, _, _, rfl, _, _⟩ := hr.open
      clear he hr
      go_enter Try.func37, Try.ntmps37
      have b0 : Below w.heap.size w w := Below.refl _ _
      have z0 : w.heap.size ≤ w.heap.size := Nat.le_refl _
      go_wp2_with fail
      refine (HOK.out _ _ (by simp; try omega) (by simp [go_sem]) (by simp [go_sem]) (by go_grown)).mono ?_
      rintro _ w1 ⟨rfl, d1⟩
      have r1 := Dr.below d1; clear d1
      have s1 : Below w.heap.size w w1 := Below.trans (by go_grown) (r1.mono (by simp; try omega))
      have b1 := b0.trans (s1.mono z0)
      have z1 := b1.size
      have y1 := s1.size
      have v1 : w.heap.size + 2 ≤ w1.heap.size := by have := r1.size; simp only [World.size_alloc] at this; omega
      have c0_0_1 := below_cell r1 (p := ⟨w.heap.size, 0, none⟩) (v := .string nm) (by simp [go_sem])
      have c0_1_1 := below_cell r1 (p := ⟨w.heap.size, 1, none⟩) (v := .slice ao ps.length cap) (by simp [go_sem])
      have c1_0_1 := below_cell r1 (p := ⟨w.heap.size + 1, 0, none⟩) (v := .string ⟨#[]⟩) (by simp [go_sem])
      have c1_1_1 := below_cell r1 (p := ⟨w.heap.size + 1, 1, none⟩) (v := .slice none 0 0) (by simp [go_sem])
      have f0_1 : ∀ j, w1.frozen? ⟨w.heap.size, j, none⟩ = false := fun j => (r1.frozen (p := ⟨w.heap.size, j, none⟩) (by simp [go_sem])).trans (by simp [go_sem])
      have f1_1 : ∀ j, w1.frozen? ⟨w.heap.size + 1, j, none⟩ = false := fun j => (r1.frozen (p := ⟨w.heap.size + 1, j, none⟩) (by simp [go_sem])).trans (by simp [go_sem])
      clear r1
      go_wp2_with fail
      refine (HIN.out _).mono ?_
      rintro _ _ ⟨rfl, rfl⟩
      go_wp2
      refine bodyPost_ret (v := .tuple #[.agg #[.string ⟨#[]⟩, .slice none 0 0], .int .i64 2]) (by simp [results, Try.results37, go_sem, c1_0_1, c1_1_1]) rfl ?_
      exact RetP2.nil (Below.setCell (Below.setCell b1 (show w.heap.size ≤ w.heap.size + 1 by omega) _) (show w.heap.size ≤ w.heap.size + 1 by omega) _)
    · have he : remI nm ps k = doneR nm (remL ps k) := by simp [remI, t0, t1]
      rw [he]
      have hk2 : 0 ≤ k ∧ k ≤ (ps.length : Int) - 1 := by simpa [inB] using t1
      obtain ⟨i, rfl⟩ : ∃ i : Nat, k = (i : Int) := ⟨k.toNat, by omega⟩
      have hi : i < ps.length := by omega
      have hw2 : IntKind.i64.wrap ((i : Int) + 1) = ((i + 1 : Nat) : Int) := by rw [IntWalk.i64_in _ (by omega)]; omega
      have hrl : remL ps i = ps.take i ++ ps.drop (i + 1) := rfl
      have hres : ∀ b, profB nm (ps.take i ++ ps.drop (i + 1)) = b → doneR nm (remL ps i) = if b then (nm, ps.take i ++ ps.drop (i + 1), 0) else (⟨#[]⟩, [], 6) := fun b hb => by unfold doneR; rw [hrl, hb]
      generalize doneR nm (remL ps i) = RES at *
      have HRES := Lib.hid hres; clear hres
      have hrc := fun ao cap (e : sv = .slice ao ps.length cap) => rd_cap (ao := ao) (cap := cap) (n := ps.length) (n' := ps.length) (xs := trips ps) (w := w) (by rw [← e]; exact hr)
      obtain ⟨hcap, ao, cap, bb, off, rfl, hao, hcell⟩ := hr.open
      have hnc := hrc _ _ rfl
      clear hrc
      have hic : i ≤ cap := by omega
      have hic2 : i + 1 ≤ cap := by omega
      have hic3 : i + 1 ≤ ps.length := by omega
      obtain rfl : ao = some ⟨bb, off, none⟩ := hao (by omega)
      have hrt := rd_take (w := w) (ps := ps) (fun w' hb j u h1 h2 => hcell w' hb j u (by omega) h2) i
      have hrd := rd_drop (w := w) (ps := ps) (fun w' hb j u h1 h2 => hcell w' hb j u (by omega) h2) (i + 1)
      have hlt : (ps.take i).length = i := by rw [List.length_take]; omega
      have hld : (ps.drop (i + 1)).length = ps.length - (i + 1) := by rw [List.length_drop]
      have HIN := Lib.hid hin; clear hin
      have HRT := Lib.hid hrt; clear hrt
      have HRD := Lib.hid hrd; clear hrd
      have HLT := Lib.hid hlt; clear hlt
      have HLD := Lib.hid hld; clear hld
      clear hrl
      clear he hr hal hcell hao
      go_enter Try.func37, Try.ntmps37
      have b0 : Below w.heap.size w w := Below.refl _ _
      have z0 : w.heap.size ≤ w.heap.size := Nat.le_refl _
      go_wp2_with fail
      refine (HOK.out _ _ (by simp; try omega) (by simp [go_sem]) (by simp [go_sem]) (by go_grown)).mono ?_
      rintro _ w1 ⟨rfl, d1⟩
      have r1 := Dr.below d1; clear d1
      have s1 : Below w.heap.size w w1 := Below.trans (by go_grown) (r1.mono (by simp; try omega))
      have b1 := b0.trans (s1.mono z0)
      have z1 := b1.size
      have y1 := s1.size
      have v1 : w.heap.size + 2 ≤ w1.heap.size := by have := r1.size; simp only [World.size_alloc] at this; omega
      have c0_0_1 := below_cell r1 (p := ⟨w.heap.size, 0, none⟩) (v := .string nm) (by simp [go_sem])
      have c0_1_1 := below_cell r1 (p := ⟨w.heap.size, 1, none⟩) (v := .slice (some ⟨bb, off, none⟩) ps.length cap) (by simp [go_sem])
      have c1_0_1 := below_cell r1 (p := ⟨w.heap.size + 1, 0, none⟩) (v := .string ⟨#[]⟩) (by simp [go_sem])
      have c1_1_1 := below_cell r1 (p := ⟨w.heap.size + 1, 1, none⟩) (v := .slice none 0 0) (by simp [go_sem])
      have f0_1 : ∀ j, w1.frozen? ⟨w.heap.size, j, none⟩ = false := fun j => (r1.frozen (p := ⟨w.heap.size, j, none⟩) (by simp [go_sem])).trans (by simp [go_sem])
      have f1_1 : ∀ j, w1.frozen? ⟨w.heap.size + 1, j, none⟩ = false := fun j => (r1.frozen (p := ⟨w.heap.size + 1, j, none⟩) (by simp [go_sem])).trans (by simp [go_sem])
      clear r1
      go_wp2_with fail
      refine (HIN.out _).mono ?_
      rintro _ _ ⟨rfl, rfl⟩
      have ac0_0 := fun o => alloc_cell o c0_0_1
      have ac0_1 := fun o => alloc_cell o c0_1_1
      have af0 : ∀ o j, (w1.alloc o).frozen? ⟨w.heap.size, j, none⟩ = false := fun o j => (alloc_frozen o (show w.heap.size < _ from World.block_lt_of_cell? _ ⟨w.heap.size, 0, none⟩ c0_0_1)).trans (f0_1 j)
      have ac1_0 := fun o => alloc_cell o c1_0_1
      have ac1_1 := fun o => alloc_cell o c1_1_1
      have af1 : ∀ o j, (w1.alloc o).frozen? ⟨w.heap.size + 1, j, none⟩ = false := fun o j => (alloc_frozen o (show w.heap.size + 1 < _ from World.block_lt_of_cell? _ ⟨w.heap.size + 1, 0, none⟩ c1_0_1)).trans (f1_1 j)
      go_wp2_with (at_builtin; refine appA_R (.tmp 19) (.tmp 23) _ (w.heap.size + 2) _ [] (ps.take i) ⟨bb, off, none⟩ i cap (by rfl) (by rfl) (by rfl) (by rfl) HLT.out (own_empty2 _ _ _ _ _ rfl (by omega)) (HRT.out _ (by first | exact b1.alloc z1 _ | go_grown)) (Nat.zero_le _) (by omega) (by simp; omega) ?_; intro v2 w2 o2 q2)
      rw [List.nil_append] at o2
      have qn : ∀ b, (fun b => (Value.slice (some ⟨w1.heap.size, 0, none⟩) 0 0).ownBlock = some b) b → w1.heap.size = b := fun b e => by simpa [Value.ownBlock] using e
      have zq := q2.size
      simp only [World.size_alloc] at zq
      have e0 := cell_only q2 (ac0_0 _) (fun e => by have := qn _ e; simp at this; omega)
      have e1 := cell_only q2 (ac0_1 _) (fun e => by have := qn _ e; simp at this; omega)
      have r0 := cell_only q2 (ac1_0 _) (fun e => by have := qn _ e; simp at this; omega)
      have r1 := cell_only q2 (ac1_1 _) (fun e => by have := qn _ e; simp at this; omega)
      have rf : ∀ j, w2.frozen? ⟨w.heap.size + 1, j, none⟩ = false := fun j => (frozen_only q2 (p := ⟨w.heap.size + 1, j, none⟩) (by simp; omega) (fun e => by have := qn _ e; simp at this; omega)).trans (af1 _ j)
      have b2 : Below w.heap.size w w2 := Only.below (b1.alloc z1 _) q2 (by simp; omega) (fun b e => by have := qn _ e; omega)
      obtain ⟨av, cv, hv⟩ := own_shape o2
      rw [HLT.out] at hv
      subst hv
      have lo2 := own_lo o2
      have lt2 : ∀ k, (Value.slice av i cv).ownBlock = some k → k < w2.heap.size := fun k e => own_lt o2 k e
      have LT2 := Lib.hid lt2; clear lt2
      have LO2 := Lib.hid lo2; clear lo2
      have hll : (ps.take i ++ ps.drop (i + 1)).length = ps.length - 1 := by rw [List.length_append, HLT.out, HLD.out]; omega
      have HLL := Lib.hid hll; clear hll
      have hA : ∃ A : Addr, (if cap = i + 1 then some (⟨bb, off, none⟩ : Addr) else some ⟨bb, off + (i + 1) * 3, none⟩) = some A ∧ Hid (∀ w', Below w.heap.size w w' → ∀ j u, (trips (ps.drop (i + 1)))[j]? = some u → w'.cell? (A.add j) = some u) := by
        by_cases hc : cap = i + 1
        · refine ⟨⟨bb, off, none⟩, by simp [hc], Lib.hid fun w' _ j u hj => ?_⟩
          rw [List.drop_of_length_le (by omega)] at hj
          simp [trips] at hj
        · exact ⟨_, by rw [if_neg hc], Lib.hid HRD.out⟩
      obtain ⟨A, hA, HRA⟩ := hA
      have O2 := Lib.hid o2; clear o2
      have hA1 : (0 : Int) ≤ (i : Int) + 1 := by omega
      have hA2 : (i : Int) + 1 ≤ (ps.length : Int) := by omega
      have hA3 : ((i : Int) + 1).toNat = i + 1 := by omega
      clear q2 qn HRT HRD ac0_0 ac0_1 ac1_0 ac1_1 af1 c0_0_1 c0_1_1 c1_0_1 c1_1_1 f1_1
      have ae0 := fun o => alloc_cell (w := w2) o e0
      have ae1 := fun o => alloc_cell (w := w2) o e1
      go_upto_region 6 with fail
      go_cut [7] from 25 (fun s7 wx => ∃ G a3 c3, s7 = .pointer (some ⟨G, 0, none⟩) ∧ PrBox (w.heap.size + 1) G nm (.slice a3 (ps.length - 1) c3) (ps.take i ++ ps.drop (i + 1)) w wx)
      case first =>
        go_region_law (first | (refine sappA_R (.tmp 27) (.tmp 32) w2.drew (w.heap.size + 2) _ (ps.take i) (ps.drop (i + 1)) A (ps.length - (i + 1)) (cap - (i + 1)) (by rfl) (by rfl) (by rfl) (by simp [Act.eval, Act.put]) HLD.out (by first | exact O2.out | exact own_later O2.out (by go_grown)) (HRA.out _ (b2.trans (Below.mono (by go_grown) b2.size))) (by rw [HLT.out]; omega) (by omega) (by simp; omega) ?_; intro v3 w3 o3 q3; obtain ⟨a3, c3, hv3⟩ := own_shape o3; rw [HLL.out] at hv3; subst hv3; have q4 := (Only.of_below (S := fun b => (Value.slice av i cv).ownBlock = some b) (show Below w2.heap.size w2 _ by go_grown)).trans q3; have e0 := cell_only q4 e0 (fun e => by have := LO2.out _ e; simp at this; omega); have e1 := cell_only q4 e1 (fun e => by have := LO2.out _ e; simp at this; omega); have r0 := cell_only q4 r0 (fun e => by have := LO2.out _ e; simp at this); have r1 := cell_only q4 r1 (fun e => by have := LO2.out _ e; simp at this); have rf : ∀ j, w3.frozen? ⟨w.heap.size + 1, j, none⟩ = false := fun j => (frozen_only q4 (p := ⟨w.heap.size + 1, j, none⟩) (show w.heap.size + 1 < _ by omega) (fun e => by have := LO2.out _ e; simp at this)).trans (rf j); have be0 := fun o => alloc_cell o e0; have be1 := fun o => alloc_cell o e1; have b3 := Only.below b2 q4 (by omega) (fun b e => by have := LO2.out _ e; omega); have y3 := q4.size; have O3 := Lib.hid o3; clear o3; clear q3 q4) | (refine sappA_R (.tmp 27) (.tmp 32) (w2.alloc (.cells #[.string ⟨#[]⟩, .slice none 0 0] 28)).drew (w.heap.size + 2) _ (ps.take i) (ps.drop (i + 1)) A (ps.length - (i + 1)) (cap - (i + 1)) (by rfl) (by rfl) (by rfl) (by simp [Act.eval, Act.put]) HLD.out (by first | exact O2.out | exact own_later O2.out (by go_grown)) (HRA.out _ (b2.trans (Below.mono (by go_grown) b2.size))) (by rw [HLT.out]; omega) (by omega) (by simp; omega) ?_; intro v3 w3 o3 q3; obtain ⟨a3, c3, hv3⟩ := own_shape o3; rw [HLL.out] at hv3; subst hv3; have q4 := (Only.of_below (S := fun b => (Value.slice av i cv).ownBlock = some b) (show Below w2.heap.size w2 _ by go_grown)).trans q3; have e0 := cell_only q4 e0 (fun e => by have := LO2.out _ e; simp at this; omega); have e1 := cell_only q4 e1 (fun e => by have := LO2.out _ e; simp at this; omega); have r0 := cell_only q4 r0 (fun e => by have := LO2.out _ e; simp at this); have r1 := cell_only q4 r1 (fun e => by have := LO2.out _ e; simp at this); have rf : ∀ j, w3.frozen? ⟨w.heap.size + 1, j, none⟩ = false := fun j => (frozen_only q4 (p := ⟨w.heap.size + 1, j, none⟩) (show w.heap.size + 1 < _ by omega) (fun e => by have := LO2.out _ e; simp at this)).trans (rf j); have be0 := fun o => alloc_cell o e0; have be1 := fun o => alloc_cell o e1; have b3 := Only.below b2 q4 (by omega) (fun b e => by have := LO2.out _ e; omega); have y3 := q4.size; have g0 := cell_only q3 (p := ⟨w2.heap.size, 0, none⟩) (v := .string ⟨#[]⟩) (by simp [go_sem]) (fun e => by have := LT2.out _ e; simp at this); have g1 := cell_only q3 (p := ⟨w2.heap.size, 1, none⟩) (v := .slice none 0 0) (by simp [go_sem]) (fun e => by have := LT2.out _ e; simp at this); have gf : ∀ j, w3.frozen? ⟨w2.heap.size, j, none⟩ = false := fun j => (frozen_only q3 (p := ⟨w2.heap.size, j, none⟩) (by simp) (fun e => by have := LT2.out _ e; simp at this)).trans (by simp [go_sem]); have gk := (q3.block w2.heap.size (by simp) (fun e => by have := LT2.out _ e; simp at this)).trans (heap_alloc_new w2 _); have O3 := Lib.hid o3; clear o3; clear q3 q4))
        all_goals (go_wp2_with fail; go_meet; first | exact ⟨_, _, _, rfl, PrBox.early b3 r0 r1 rf O3.out gk (by omega) (by omega) g0 g1⟩ | exact ⟨_, _, _, rfl, PrBox.late b3 r0 r1 rf O3.out⟩)
      case rest =>
      obtain ⟨G, a3, c3, rfl, hbx⟩ := hcut
      generalize wc = wx at *
      clear O2 LO2 LT2 HRA HLT HLD HIN HOK ae0 ae1 e0 e1 b2 hA r0 r1 rf
      have hres := HRES.out
      clear HRES
      generalize ps.take i ++ ps.drop (i + 1) = qs at *
      have hgl : G < wx.heap.size := World.block_lt_of_cell? _ ⟨G, 0, none⟩ hbx.q0
      have hRl : w.heap.size + 1 < wx.heap.size := World.block_lt_of_cell? _ ⟨w.heap.size + 1, 0, none⟩ hbx.r0
      have hk := l05Ok_c G nm _ qs wx hgl hnm hbx.q0 hbx.q1 (Rd.of_own hbx.own)
      have q0 := hbx.q0
      have q1 := hbx.q1
      have r0 := hbx.r0
      have r1 := hbx.r1
      have rf := hbx.rf
      have HBX := Lib.hid hbx; clear hbx
      cases t2 : profB nm qs <;> rw [t2] at hk
      · obtain rfl := hres _ t2
        have HK := Lib.hid hk; clear hk
        go_wp2_with fail
        refine HK.out.mono ?_
        rintro _ w6 ⟨rfl, d6⟩
        have s6 := Dr.below d6
        clear d6
        have r0 := below_cell s6 r0
        have r1 := below_cell s6 r1
        have rf : ∀ j, w6.frozen? ⟨w.heap.size + 1, j, none⟩ = false := fun j => (s6.frozen (p := ⟨w.heap.size + 1, j, none⟩) hRl).trans (rf j)
        go_wp2
        refine bodyPost_ret (v := .tuple #[.agg #[.string ⟨#[]⟩, .slice none 0 0], .int .i64 6]) (by simp [results, Try.results37, go_sem, r0, r1]) rfl ?_
        exact RetP2.nil (Below.setCell (Below.setCell (HBX.out.below.trans (s6.mono (by omega))) (show w.heap.size ≤ w.heap.size + 1 by omega) _) (show w.heap.size ≤ w.heap.size + 1 by omega) _)
      · obtain rfl := hres _ t2
        have HK := Lib.hid hk; clear hk
        go_wp2_with fail
        refine HK.out.mono ?_
        rintro _ w6 ⟨rfl, d6⟩
        have s6 := Dr.below d6
        clear d6
        have r0 := below_cell s6 r0
        have r1 := below_cell s6 r1
        have q0 := below_cell s6 q0
        have q1 := below_cell s6 q1
        have rf : ∀ j, w6.frozen? ⟨w.heap.size + 1, j, none⟩ = false := fun j => (s6.frozen (p := ⟨w.heap.size + 1, j, none⟩) hRl).trans (rf j)
        go_wp2
        refine bodyPost_ret (v := .tuple #[.agg #[.string nm, .slice a3 (ps.length - 1) c3], .int .i64 0]) (by simp [results, Try.results37, go_sem, r0, r1]) rfl ?_
        have o6 := own_later HBX.out.own s6
        have lo6 := own_lo o6
        have o11 := own_set o6 (a := ⟨w.heap.size + 1, 0, none⟩) (fun k hk => by have := lo6 k hk; simp; omega) (.string nm)
        have o12 := own_set o11 (a := ⟨w.heap.size + 1, 1, none⟩) (fun k hk => by have := lo6 k hk; simp; omega) (.slice a3 (ps.length - 1) c3)
        exact ⟨_, rfl, own_base o12 (by omega), Below.setCell (Below.setCell (HBX.out.below.trans (s6.mono (by omega))) (show w.heap.size ≤ w.heap.size + 1 by omega) _) (show w.heap.size ≤ w.heap.size + 1 by omega) _⟩

end Go.Proofs.Ytmickkodcclocaa
