/- A ring is removed: the reference's side. -/
import Derived.Test.YtjlenafdpoknhaaGF
import Derived.Test.YtjlenafdpoknhaaRem3
import Derived.Deep.Cut
import Derived.Deep.CutRange
import Derived.Deep.DeepCutAuto
namespace Go.Proofs.Ytjlenafdpoknhaa
set_option linter.unusedVariables false
open Go.RowKit Go.Proofs.Bell Go.BigFrame

/-- append of what lies at an address, onto a list of one's own: maybe nothing -/
theorem wappA_R {o : Oper} {a : Act} {K : Act → World → Prop} {Q : Exit → Act → World → Prop} (s x : Operand) (W : World) (base : Nat) (v : Value) (qs rs : List (Int × Int × Int)) (ad : Addr) (m c : Nat)
    (ho : o.op = .call { callee := .builtin .append, args := #[s, x], argTypes := #[26, 26] })
    (hs : a.eval s = v) (hx : a.eval x = .slice (some ad) m c) (hm : rs.length = m) (hown : OwnR base W v qs) (hrd : ∀ j u, (trips rs)[j]? = some u → W.cell? (ad.add j) = some u) (hn : qs.length ≤ 1000000) (hm1 : m ≤ 1000000) (hbase : base ≤ W.heap.size)
    (h : ∀ v' w', OwnR base w' v' (qs ++ rs) → Only (fun b => v.ownBlock = some b) W w' → K (a.put o.dst v') w') : o.wp Try.prog a W K Q := by
  subst hm
  obtain ⟨i0, hi, hz0, hz1, hz2⟩ := info_parts info_Ring
  refine wp_append_own W s x 26 ho base 38 i0 _ 3 24 Try.underlying26 hi hz0 hz1 hz2 rfl (by decide) v qs.length (trips qs) hs hown ad rs.length c (trips rs) hx (trips_len rs) hrd (fun u hu => ?_) (by unfold maxLen; omega) (by omega) hbase ?_
  · obtain ⟨p, _, hp⟩ := List.mem_flatMap.1 hu
    simp at hp
    rcases hp with rfl | rfl | rfl <;> rfl
  · intro v' w' ho' hg _
    refine h v' w' ?_ (Only.of_grown hg)
    unfold OwnR
    rw [List.length_append, trips_app]
    exact ho'
theorem appA_R {ops : Array Oper} {rest : List Oper} {o : Oper} {a : Act} {Q : Exit → Act → World → Prop} (s x : Operand) (W : World) (base : Nat) (v : Value) (qs rs : List (Int × Int × Int)) (ad : Addr) (m c : Nat)
    (ho : o.op = .call { callee := .builtin .append, args := #[s, x], argTypes := #[26, 26] }) (hgd : o.guard = none)
    (hs : a.eval s = v) (hx : a.eval x = .slice (some ad) m c) (hm : rs.length = m) (hown : OwnR base W v qs) (hrd : ∀ j u, (trips rs)[j]? = some u → W.cell? (ad.add j) = some u) (hn : qs.length ≤ 1000000) (hm1 : m ≤ 1000000) (hbase : base ≤ W.heap.size)
    (h : ∀ v' w', OwnR base w' v' (qs ++ rs) → Only (fun b => v.ownBlock = some b) W w' → wpList Try.prog ops Q rest (a.put o.dst v') w') : wpList Try.prog ops Q (o :: rest) a W :=
  wpList_plain hgd fun _ hK => wappA_R s x W base v qs rs ad m c ho hs hx hm hown hrd hn hm1 hbase fun v' w' h2 h3 => hK _ _ (h v' w' h2 h3)
theorem sappA_R {ops : Array Oper} {o : Oper} {a : Act} {K : Act → World → Prop} {Q : Exit → Act → World → Prop} {E : Prop} (s x : Operand) (W : World) (base : Nat) (v : Value) (qs rs : List (Int × Int × Int)) (ad : Addr) (m c : Nat)
    (ho : o.op = .call { callee := .builtin .append, args := #[s, x], argTypes := #[26, 26] }) (hgd : o.guard = none)
    (hs : a.eval s = v) (hx : a.eval x = .slice (some ad) m c) (hm : rs.length = m) (hown : OwnR base W v qs) (hrd : ∀ j u, (trips rs)[j]? = some u → W.cell? (ad.add j) = some u) (hn : qs.length ≤ 1000000) (hm1 : m ≤ 1000000) (hbase : base ≤ W.heap.size)
    (h : ∀ v' w', OwnR base w' v' (qs ++ rs) → Only (fun b => v.ownBlock = some b) W w' → K (a.put o.dst v') w') :
    if Region.wanted o (yielded ops a.tmps) = true then Oper.wp Try.prog o a W K Q else E := by
  have hw : Region.wanted o (yielded ops a.tmps) = true := by simp [Region.wanted, hgd]
  rw [if_pos hw]
  exact wappA_R s x W base v qs rs ad m c ho hs hx hm hown hrd hn hm1 hbase h
/-- the cells of a list from an element on, and ahead of one -/
theorem rd_drop {w : World} {b off : Nat} {ps : List (Int × Int × Int)} (h : ∀ w', Below w.heap.size w w' → ∀ j u, j < ps.length * 3 → (trips ps)[j]? = some u → w'.cell? ⟨b, off + j, none⟩ = some u) (k : Nat) :
    ∀ w', Below w.heap.size w w' → ∀ j u, (trips (ps.drop k))[j]? = some u → w'.cell? ((⟨b, off + k * 3, none⟩ : Addr).add j) = some u := fun w' hb j u hu => by
  have h1 := (List.getElem?_eq_some_iff.1 hu).1
  rw [trips_len, List.length_drop] at h1
  rw [← trips_drop, List.getElem?_drop] at hu
  rw [add_norm _ rfl, show off + k * 3 + j = off + (k * 3 + j) by omega]
  exact h w' hb _ u (by omega) hu
theorem rd_take {w : World} {b off : Nat} {ps : List (Int × Int × Int)} (h : ∀ w', Below w.heap.size w w' → ∀ j u, j < ps.length * 3 → (trips ps)[j]? = some u → w'.cell? ⟨b, off + j, none⟩ = some u) (k : Nat) :
    ∀ w', Below w.heap.size w w' → ∀ j u, (trips (ps.take k))[j]? = some u → w'.cell? ((⟨b, off, none⟩ : Addr).add j) = some u := fun w' hb j u hu => by
  have h1 := (List.getElem?_eq_some_iff.1 hu).1
  rw [← trips_take, List.length_take, trips_len] at h1
  rw [← trips_take, List.getElem?_take, if_pos (by omega)] at hu
  rw [add_norm _ rfl]
  exact h w' hb j u (by omega) hu

theorem own_kind {w : World} {B : Nat} {e : TypeId} {size : Nat} {v : Value} {n : Nat} {xs : List Value} (h : w.ownsRow B e size v n xs) : ∀ g, v.ownBlock = some g → ∃ c fz, w.heap[g]? = some (.cells c e fz) := by
  intro g hg
  rcases h.2 with ⟨rfl, _⟩ | ⟨g', cap, cur, rfl, _, hgg, _⟩
  · simp [Value.ownBlock] at hg
  · simp [Value.ownBlock] at hg
    subst hg
    exact ⟨cur, (0, 0), hgg⟩
/-- a row of one's own lies in no profile's box -/
theorem own_ne {w : World} {B : Nat} {v : Value} {qs : List (Int × Int × Int)} {g : Nat} {cs : Array Value} {fz : Nat × Nat} (h : OwnR B w v qs) (hg : w.heap[g]? = some (.cells cs 28 fz)) : ∀ k, v.ownBlock = some k → g ≠ k := by
  rintro k hk rfl
  obtain ⟨c, f2, h2⟩ := own_kind h g hk
  rw [hg] at h2
  simp at h2
/-- the profile's box, wherever it was made: what is known of it -/
structure PrBox (R G : Nat) (nm : ByteArray) (v : Value) (qs : List (Int × Int × Int)) (w wx : World) : Prop where
  below : Below w.heap.size w wx
  r0 : wx.cell? ⟨R, 0, none⟩ = some (.string ⟨#[]⟩)
  r1 : wx.cell? ⟨R, 1, none⟩ = some (.slice none 0 0)
  rf : ∀ j, wx.frozen? ⟨R, j, none⟩ = false
  q0 : wx.cell? ⟨G, 0, none⟩ = some (.string nm)
  q1 : wx.cell? ⟨G, 1, none⟩ = some v
  own : OwnR (R + 1) wx v qs
theorem PrBox.late {R : Nat} {nm : ByteArray} {v : Value} {qs : List (Int × Int × Int)} {w w3 : World} (b : Below w.heap.size w w3) (r0 : w3.cell? ⟨R, 0, none⟩ = some (.string ⟨#[]⟩)) (r1 : w3.cell? ⟨R, 1, none⟩ = some (.slice none 0 0)) (rf : ∀ j, w3.frozen? ⟨R, j, none⟩ = false) (o : OwnR (R + 1) w3 v qs) :
    PrBox R w3.heap.size nm v qs w (w3.alloc (.cells #[.string nm, v] 28)) :=
  ⟨b.alloc b.size _, alloc_cell _ r0, alloc_cell _ r1, fun j => (alloc_frozen _ (show R < _ from World.block_lt_of_cell? _ ⟨R, 0, none⟩ r0)).trans (rf j), by simp [go_sem], by simp [go_sem], own_later o ((Below.refl _ _).alloc (Nat.le_refl _) _)⟩
theorem PrBox.early {R G : Nat} {nm : ByteArray} {v : Value} {qs : List (Int × Int × Int)} {w w3 : World} {cs : Array Value} {fz : Nat × Nat} (b : Below w.heap.size w w3) (r0 : w3.cell? ⟨R, 0, none⟩ = some (.string ⟨#[]⟩)) (r1 : w3.cell? ⟨R, 1, none⟩ = some (.slice none 0 0)) (rf : ∀ j, w3.frozen? ⟨R, j, none⟩ = false) (o : OwnR (R + 1) w3 v qs)
    (hg : w3.heap[G]? = some (.cells cs 28 fz)) (hR : R < G) (hw : w.heap.size ≤ G) {u0 u1 : Value} (g0 : w3.cell? ⟨G, 0, none⟩ = some u0) (g1 : w3.cell? ⟨G, 1, none⟩ = some u1) :
    PrBox R G nm v qs w ((w3.setCell ⟨G, 0, none⟩ (.string nm)).setCell ⟨G, 1, none⟩ v) := by
  have hn := own_ne o hg
  refine ⟨(b.setCell hw _).setCell hw _, ?_, ?_, fun j => by rw [World.frozen?_setCell, World.frozen?_setCell]; exact rf j, ?_, ?_, own_set (own_set o (fun k hk => hn k hk) _) (fun k hk => hn k hk) _⟩
  · rw [World.cell?_setCell_other _ _ _ _ (by simp; try omega), World.cell?_setCell_other _ _ _ _ (by simp; try omega)]; exact r0
  · rw [World.cell?_setCell_other _ _ _ _ (by simp; try omega), World.cell?_setCell_other _ _ _ _ (by simp; try omega)]; exact r1
  · rw [World.cell?_setCell_other _ _ _ _ (by simp)]; exact World.cell?_setCell_same _ _ _ g0
  · exact World.cell?_setCell_same _ _ _ (by rw [World.cell?_setCell_other _ _ _ _ (by simp)]; exact g1)

end Go.Proofs.Ytjlenafdpoknhaa
