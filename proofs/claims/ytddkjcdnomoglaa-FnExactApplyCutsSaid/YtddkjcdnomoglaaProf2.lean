/- Profiles copied, tested: the program's and the reference's helpers. -/
import Derived.Test.YtddkjcdnomoglaaOpen
import Derived.Lib.SliceRun
import Derived.Test.YtddkjcdnomoglaaApp
import Derived.Test.YtddkjcdnomoglaaValid2
import Derived.Test.YtddkjcdnomoglaaBest
import Derived.Deep.RegionHeld3
import Derived.Deep.DeepCutAuto
namespace Go.Proofs.Ytddkjcdnomoglaa
set_option linter.unusedVariables false
open Go.RowKit Go.Proofs.Bell Go.BigFrame

/-- append of a slice that can be read onto a slice of one's own -/
theorem wappN_R {o : Oper} {a : Act} {K : Act → World → Prop} {Q : Exit → Act → World → Prop} (s x : Operand) (W : World) (base : Nat) (v u : Value) (qs rs : List (Int × Int × Int))
    (ho : o.op = .call { callee := .builtin .append, args := #[s, x], argTypes := #[29, 29] })
    (hs : a.eval s = v) (hx : a.eval x = u) (hown : OwnR base W v qs) (hrd : Rd W u rs.length (trips rs)) (h1 : 1 ≤ rs.length) (hn : qs.length ≤ 1000000) (hm : rs.length ≤ 1000000) (hbase : base ≤ W.heap.size)
    (h : ∀ v' w', OwnR base w' v' (qs ++ rs) → Only (fun b => v.ownBlock = some b) W w' → K (a.put o.dst v') w') : o.wp Try.prog a W K Q := by
  obtain ⟨i0, hi, hz0, hz1, hz2⟩ := info_parts info_Ring
  obtain ⟨_, ao, cap, b, off, rfl, hao, hcell⟩ := hrd.open
  obtain rfl : ao = some ⟨b, off, none⟩ := hao (by omega)
  refine wp_append_own W s x 29 ho base 52 i0 _ 3 24 Try.underlying29 hi hz0 hz1 hz2 rfl (by decide) v qs.length (trips qs) hs hown ⟨b, off, none⟩ rs.length cap (trips rs) hx (trips_len rs) (fun j u hj => ?_) (fun u hu => ?_) (by unfold maxLen; omega) (by omega) hbase ?_
  · rw [add_norm _ rfl]; exact hcell _ (Below.refl _ _) j u (by omega) hj
  · obtain ⟨p, _, hp⟩ := List.mem_flatMap.1 hu
    simp at hp
    rcases hp with rfl | rfl | rfl <;> rfl
  · intro v' w' ho' hg _
    refine h v' w' ?_ (Only.of_grown hg)
    unfold OwnR
    rw [List.length_append]
    have e : trips (qs ++ rs) = trips qs ++ trips rs := by simp [trips]
    rw [e]; exact ho'
theorem appN_R {ops : Array Oper} {rest : List Oper} {o : Oper} {a : Act} {Q : Exit → Act → World → Prop} (s x : Operand) (W : World) (base : Nat) (v u : Value) (qs rs : List (Int × Int × Int))
    (ho : o.op = .call { callee := .builtin .append, args := #[s, x], argTypes := #[29, 29] }) (hgd : o.guard = none)
    (hs : a.eval s = v) (hx : a.eval x = u) (hown : OwnR base W v qs) (hrd : Rd W u rs.length (trips rs)) (h1 : 1 ≤ rs.length) (hn : qs.length ≤ 1000000) (hm : rs.length ≤ 1000000) (hbase : base ≤ W.heap.size)
    (h : ∀ v' w', OwnR base w' v' (qs ++ rs) → Only (fun b => v.ownBlock = some b) W w' → wpList Try.prog ops Q rest (a.put o.dst v') w') : wpList Try.prog ops Q (o :: rest) a W :=
  wpList_plain hgd fun _ hK => wappN_R s x W base v u qs rs ho hs hx hown hrd h1 hn hm hbase fun v' w' h2 h3 => hK _ _ (h v' w' h2 h3)
theorem sappN_R {ops : Array Oper} {o : Oper} {a : Act} {K : Act → World → Prop} {Q : Exit → Act → World → Prop} {E : Prop} (s x : Operand) (W : World) (base : Nat) (v u : Value) (qs rs : List (Int × Int × Int))
    (ho : o.op = .call { callee := .builtin .append, args := #[s, x], argTypes := #[29, 29] }) (hgd : o.guard = none)
    (hs : a.eval s = v) (hx : a.eval x = u) (hown : OwnR base W v qs) (hrd : Rd W u rs.length (trips rs)) (h1 : 1 ≤ rs.length) (hn : qs.length ≤ 1000000) (hm : rs.length ≤ 1000000) (hbase : base ≤ W.heap.size)
    (h : ∀ v' w', OwnR base w' v' (qs ++ rs) → Only (fun b => v.ownBlock = some b) W w' → K (a.put o.dst v') w') :
    if Region.wanted o (yielded ops a.tmps) = true then Oper.wp Try.prog o a W K Q else E := by
  have hw : Region.wanted o (yielded ops a.tmps) = true := by simp [Region.wanted, hgd]
  rw [if_pos hw]
  exact wappN_R s x W base v u qs rs ho hs hx hown hrd h1 hn hm hbase h

theorem own_empty2 (W : World) (e : TypeId) (size base g : Nat) (hg : W.heap.size = g) (hb : base ≤ g) : (W.alloc (.cells #[] e)).ownsRow base e size (.slice (some ⟨g, 0, none⟩) 0 0) 0 [] := by
  subst hg; exact own_empty W e size base hb
theorem frozen_only {S : Nat → Prop} {w w' : World} (ho : Only S w w') {p : Addr} (hp : p.block < w.heap.size) (hn : ¬ S p.block) : w'.frozen? p = w.frozen? p :=
  World.frozen?_of_block (ho.block p.block hp hn)

set_option maxRecDepth 100000 in
set_option maxHeartbeats 800000 in
theorem CloneR_c (v : Value) (rs : List (Int × Int × Int)) (w : World) (hr : Rd w v rs.length (trips rs)) (h1 : 1 ≤ rs.length) (hl : rs.length ≤ 1000) :
    Calls Try.prog 96 #[v] w (RetOwnR rs w) := by
  have hrd := fun w' (hb : Below w.heap.size w w') => hr.later hb
  obtain ⟨hn, ao, cap, b, off, rfl, hao, hcell⟩ := hr.open
  obtain rfl : ao = some ⟨b, off, none⟩ := hao (by omega)
  clear hcell hao hr
  have HRD := Lib.hid hrd; clear hrd
  have hnil := fun w' => Lib.run_eql_slice_nil (P := Try.prog) w' 29 52 (some ⟨b, off, none⟩) rs.length cap 0 0 Try.underlying29
  go_enter Try.func96, Try.ntmps96
  go_wp2_with (at_builtin; refine appN_R (.tmp 5) (.tmp 6) _ w.heap.size _ _ [] rs (by rfl) (by rfl) (by rfl) (by rfl) (own_empty _ _ _ _ (Nat.le_refl _)) (HRD.out _ (by go_grown)) h1 (Nat.zero_le _) (by omega) (by simp) ?_; intro v2 w2 o2 q2)
  go_returns
  exact ⟨_, rfl, o2, Only.below (by go_grown) q2 (by simp) (fun b hS => by simp [Value.ownBlock] at hS; omega)⟩

set_option maxHeartbeats 1600000 in
theorem l05Own_c (g : Nat) (nm : ByteArray) (sv : Value) (rs : List (Int × Int × Int)) (w : World) (c0 : w.cell? ⟨g, 0, none⟩ = some (.string nm)) (c1 : w.cell? ⟨g, 1, none⟩ = some sv) (hr : Rd w sv rs.length (trips rs)) (h1 : 1 ≤ rs.length) (hl : rs.length ≤ 1000) :
    Calls Try.prog 75 #[.pointer (some ⟨g, 0, none⟩)] w (RetOwnP nm rs w) := by
  have hrd := fun w' (hb : Below w.heap.size w w') => hr.later hb
  obtain ⟨hn, ao, cap, b, off, rfl, hao, hcell⟩ := hr.open
  clear hcell hao hr
  have HRD := Lib.hid hrd; clear hrd
  have hg := World.block_lt_of_cell? w _ c0
  simp only at hg
  have d0 := fun o => alloc_cell o c0
  have d1 := fun o => alloc_cell o c1
  go_enter Try.func75, Try.ntmps75
  go_wp2_with fail
  go_region_held3 (fun w' => w'.cell? ⟨g, 0, none⟩ = some (.string nm) ∧ w'.cell? ⟨g, 1, none⟩ = some (.slice ao rs.length cap)) (first | exact ⟨d0 _, d1 _⟩ | exact ⟨e0, e1⟩ | (refine ⟨?_, ?_⟩ <;> (rw [World.cell?_setCell_other _ _ _ _ (by simp; try omega), World.cell?_setCell_other _ _ _ _ (by simp; try omega)]; assumption)) | exact ⟨below_cell (below_drewN (Below.refl _ _) _) (d0 _), below_cell (below_drewN (Below.refl _ _) _) (d1 _)⟩ | go_keep) (first | (refine sappN_R (.tmp 7) (.tmp 11) _ (w.heap.size + 1) (.slice (some ⟨w.heap.size + 1, 0, none⟩) 0 0) _ [] rs (by rfl) (by rfl) (by rfl) (by rfl) (own_empty2 _ _ _ _ (w.heap.size + 1) (by simp) (by simp)) (HRD.out _ (by go_grown)) h1 (Nat.zero_le _) (by omega) (by simp) ?_; intro v2 w2 o2 q2; have e0 : w2.cell? ⟨g, 0, none⟩ = some (.string nm) := cell_only q2 (below_cell (by go_grown) c0) (fun h => by simp [Value.ownBlock] at h; omega); have e1 : w2.cell? ⟨g, 1, none⟩ = some (.slice ao rs.length cap) := cell_only q2 (below_cell (by go_grown) c1) (fun h => by simp [Value.ownBlock] at h; omega); have r0 : w2.cell? ⟨w.heap.size, 0, none⟩ = some (.string ⟨#[]⟩) := cell_only q2 (by simp [go_sem]) (fun h => by simp [Value.ownBlock] at h); have r1 : w2.cell? ⟨w.heap.size, 1, none⟩ = some (.slice none 0 0) := cell_only q2 (by simp [go_sem]) (fun h => by simp [Value.ownBlock] at h); have rf : ∀ j, w2.frozen? ⟨w.heap.size, j, none⟩ = false := fun j => (frozen_only q2 (by simp; omega) (fun h => by simp [Value.ownBlock] at h)).trans (by simp [go_sem]); have y2 := q2.size; simp at y2; obtain ⟨a2, p2, rfl⟩ := own_shape o2; have O2 := Lib.hid o2; clear o2; have b2 : Below w.heap.size w w2 := Only.below (by go_grown) q2 (by simp; omega) (fun b h => by simp [Value.ownBlock] at h; omega); clear q2))
  go_wp2
  refine bodyPost_ret (v := .agg #[.string nm, .slice a2 rs.length p2]) (by simp [results, Try.results75, go_sem, r0, r1]) rfl ?_
  refine ⟨_, rfl, own_base (ownsRow_setCell_below (ownsRow_setCell_below O2.out (by simp) _) (by simp) _) (by omega), (b2.setCell (Nat.le_refl _) _).setCell (Nat.le_refl _) _⟩

end Go.Proofs.Ytddkjcdnomoglaa
