/- Several texts of the proofs in one: Prof2, Prof3, Resh, Ring2, Vols, Put. -/
import Derived.Test.YtgdadbmhdljcdaaGreatDoorGA
import Derived.Test.YtgdadbmhdljcdaaGreatDoorGC
import Derived.Test.YtgdadbmhdljcdaaGreatDoorGD
import Derived.Test.YtgdadbmhdljcdaaGreatDoorRing
import Derived.Deep.AppendLies
import Derived.Deep.DeepCutAuto
import Derived.Deep.RegionHeld3
import Derived.Deep.RegionLaw
import Derived.Laws.OwnMore
import Derived.Lib.Hide
import Derived.Lib.SliceRun
/- Profiles copied, tested: the program's and the reference's helpers. -/
namespace Go.Proofs.YtgdadbmhdljcdaaGreatDoor
set_option linter.unusedVariables false
open Go.RowKit Go.Proofs.Bell Go.BigFrame

/-- append of a slice that can be read onto a slice of one's own -/
theorem wappN_R {o : Oper} {a : Act} {K : Act → World → Prop} {Q : Exit → Act → World → Prop} (s x : Operand) (W : World) (base : Nat) (v u : Value) (qs rs : List (Int × Int × Int))
    (ho : o.op = .call { callee := .builtin .append, args := #[s, x], argTypes := #[24, 24] })
    (hs : a.eval s = v) (hx : a.eval x = u) (hown : OwnR base W v qs) (hrd : Rd W u rs.length (trips rs)) (h1 : 1 ≤ rs.length) (hn : qs.length ≤ 1000000) (hm : rs.length ≤ 1000000) (hbase : base ≤ W.heap.size)
    (h : ∀ v' w', OwnR base w' v' (qs ++ rs) → Only (fun b => v.ownBlock = some b) W w' → K (a.put o.dst v') w') : o.wp Tryz.prog a W K Q := by
  obtain ⟨i0, hi, hz0, hz1, hz2⟩ := info_parts info_Ring
  obtain ⟨_, ao, cap, b, off, rfl, hao, hcell⟩ := hrd.open
  obtain rfl : ao = some ⟨b, off, none⟩ := hao (by omega)
  refine wp_append_own W s x 24 ho base 37 i0 _ 3 24 Tryz.underlying24 hi hz0 hz1 hz2 rfl (by decide) v qs.length (trips qs) hs hown ⟨b, off, none⟩ rs.length cap (trips rs) hx (trips_len rs) (fun j u hj => ?_) (fun u hu => ?_) (by unfold maxLen; omega) (by omega) hbase ?_
  · rw [add_norm _ rfl]; exact hcell _ (Below.refl _ _) j u (by omega) hj
  · obtain ⟨p, _, hp⟩ := List.mem_flatMap.1 hu
    simp at hp
    rcases hp with rfl | rfl | rfl <;> rfl
  · intro v' w' ho' hg _
    refine h v' w' ?_ (Only.of_grown hg)
    unfold OwnR
    rw [List.length_append]
    have e : trips (qs ++ rs) = trips qs ++ trips rs := by simp [trips]
    rw [e]; exact ho'
theorem appN_R {ops : Array Oper} {rest : List Oper} {o : Oper} {a : Act} {Q : Exit → Act → World → Prop} (s x : Operand) (W : World) (base : Nat) (v u : Value) (qs rs : List (Int × Int × Int))
    (ho : o.op = .call { callee := .builtin .append, args := #[s, x], argTypes := #[24, 24] }) (hgd : o.guard = none)
    (hs : a.eval s = v) (hx : a.eval x = u) (hown : OwnR base W v qs) (hrd : Rd W u rs.length (trips rs)) (h1 : 1 ≤ rs.length) (hn : qs.length ≤ 1000000) (hm : rs.length ≤ 1000000) (hbase : base ≤ W.heap.size)
    (h : ∀ v' w', OwnR base w' v' (qs ++ rs) → Only (fun b => v.ownBlock = some b) W w' → wpList Tryz.prog ops Q rest (a.put o.dst v') w') : wpList Tryz.prog ops Q (o :: rest) a W :=
  wpList_plain hgd fun _ hK => wappN_R s x W base v u qs rs ho hs hx hown hrd h1 hn hm hbase fun v' w' h2 h3 => hK _ _ (h v' w' h2 h3)
theorem sappN_R {ops : Array Oper} {o : Oper} {a : Act} {K : Act → World → Prop} {Q : Exit → Act → World → Prop} {E : Prop} (s x : Operand) (W : World) (base : Nat) (v u : Value) (qs rs : List (Int × Int × Int))
    (ho : o.op = .call { callee := .builtin .append, args := #[s, x], argTypes := #[24, 24] }) (hgd : o.guard = none)
    (hs : a.eval s = v) (hx : a.eval x = u) (hown : OwnR base W v qs) (hrd : Rd W u rs.length (trips rs)) (h1 : 1 ≤ rs.length) (hn : qs.length ≤ 1000000) (hm : rs.length ≤ 1000000) (hbase : base ≤ W.heap.size)
    (h : ∀ v' w', OwnR base w' v' (qs ++ rs) → Only (fun b => v.ownBlock = some b) W w' → K (a.put o.dst v') w') :
    if Region.wanted o (yielded ops a.tmps) = true then Oper.wp Tryz.prog o a W K Q else E := by
  have hw : Region.wanted o (yielded ops a.tmps) = true := by simp [Region.wanted, hgd]
  rw [if_pos hw]
  exact wappN_R s x W base v u qs rs ho hs hx hown hrd h1 hn hm hbase h

theorem own_empty2 (W : World) (e : TypeId) (size base g : Nat) (hg : W.heap.size = g) (hb : base ≤ g) : (W.alloc (.cells #[] e)).ownsRow base e size (.slice (some ⟨g, 0, none⟩) 0 0) 0 [] := by
  subst hg; exact own_empty W e size base hb
theorem frozen_only {S : Nat → Prop} {w w' : World} (ho : Only S w w') {p : Addr} (hp : p.block < w.heap.size) (hn : ¬ S p.block) : w'.frozen? p = w.frozen? p :=
  World.frozen?_of_block (ho.block p.block hp hn)

set_option maxRecDepth 100000 in
set_option maxHeartbeats 800000 in
theorem CloneR_c (v : Value) (rs : List (Int × Int × Int)) (w : World) (hr : Rd w v rs.length (trips rs)) (h1 : 1 ≤ rs.length) (hl : rs.length ≤ 1000) :
    Calls Tryz.prog 60 #[v] w (RetOwnR rs w) := by
  have hrd := fun w' (hb : Below w.heap.size w w') => hr.later hb
  obtain ⟨hn, ao, cap, b, off, rfl, hao, hcell⟩ := hr.open
  obtain rfl : ao = some ⟨b, off, none⟩ := hao (by omega)
  clear hcell hao hr
  have HRD := Lib.hid hrd; clear hrd
  have hnil := fun w' => Lib.run_eql_slice_nil (P := Tryz.prog) w' 24 37 (some ⟨b, off, none⟩) rs.length cap 0 0 Tryz.underlying24
  go_enter Tryz.func60, Tryz.ntmps60
  go_wp2_with (at_builtin; refine appN_R (.tmp 5) (.tmp 6) _ w.heap.size _ _ [] rs (by rfl) (by rfl) (by rfl) (by rfl) (own_empty _ _ _ _ (Nat.le_refl _)) (HRD.out _ (by go_grown)) h1 (Nat.zero_le _) (by omega) (by simp) ?_; intro v2 w2 o2 q2)
  go_returns
  exact ⟨_, rfl, o2, Only.below (by go_grown) q2 (by simp) (fun b hS => by simp [Value.ownBlock] at hS; omega)⟩

end Go.Proofs.YtgdadbmhdljcdaaGreatDoor

/- Profiles copied, tested, renamed. -/
namespace Go.Proofs.YtgdadbmhdljcdaaGreatDoor
set_option linter.unusedVariables false
open Go.RowKit Go.Proofs.Bell Go.BigFrame

set_option maxRecDepth 100000 in
set_option maxHeartbeats 1600000 in
theorem copyProfile_c (nm : ByteArray) (sv : Value) (rs : List (Int × Int × Int)) (w : World) (hr : Rd w sv rs.length (trips rs)) (h1 : 1 ≤ rs.length) (hl : rs.length ≤ 1000) :
    Calls Tryz.prog 132 #[.agg #[.string nm, sv]] w (RetOwnP nm rs w) := by
  have hc := fun w' (hb : Below w.heap.size w w') => CloneR_c sv rs w' (hr.later hb) h1 hl
  obtain ⟨hn, ao, cap, b, off, rfl, hao, hcell⟩ := hr.open
  clear hcell hao hr
  have HC := Lib.hid hc; clear hc
  go_enter Tryz.func132, Tryz.ntmps132
  go_wp2_with fail
  go_region_held3 (fun w' => w'.cell? ⟨w.heap.size, 0, none⟩ = some (.string nm) ∧ w'.cell? ⟨w.heap.size, 1, none⟩ = some (.slice ao rs.length cap)) (first | exact ⟨e0, e1⟩ | (refine ⟨?_, ?_⟩ <;> (rw [World.cell?_setCell_other _ _ _ _ (by simp; try omega), World.cell?_setCell_other _ _ _ _ (by simp; try omega)]; assumption)) | (refine ⟨?_, ?_⟩ <;> (simp [go_sem]; done)) | go_keep) (first | (go_at_call 60; refine (HC.out _ (by go_grown)).mono ?_; rintro _ w2 ⟨v2, rfl, o2, q2⟩; have e0 := below_cell q2 (p := ⟨w.heap.size, 0, none⟩) (v := .string nm) (by simp [go_sem]); have e1 := below_cell q2 (p := ⟨w.heap.size, 1, none⟩) (v := .slice ao rs.length cap) (by simp [go_sem]); have r0 := below_cell q2 (p := ⟨w.heap.size + 1, 0, none⟩) (v := .string ⟨#[]⟩) (by simp [go_sem]); have r1 := below_cell q2 (p := ⟨w.heap.size + 1, 1, none⟩) (v := .slice none 0 0) (by simp [go_sem]); have rf : ∀ j, w2.frozen? ⟨w.heap.size + 1, j, none⟩ = false := fun j => (q2.frozen (p := ⟨w.heap.size + 1, j, none⟩) (by simp [go_sem])).trans (by simp [go_sem]); obtain ⟨a2, p2, rfl⟩ := own_shape o2; have y2 := q2.size; simp only [World.size_alloc, World.size_drew] at y2; have o3 : OwnR (w.heap.size + 2) w2 (.slice a2 rs.length p2) rs := own_base o2 (by simp); clear o2; have O3 := Lib.hid o3; clear o3; have b2 : Below w.heap.size w w2 := Below.trans (by go_grown) (q2.mono (by simp; try omega)); clear q2))
  go_wp2
  refine bodyPost_ret (v := .agg #[.string nm, .slice a2 rs.length p2]) (by simp [results, Tryz.results132, go_sem, r0, r1]) rfl ?_
  refine ⟨_, rfl, own_base (ownsRow_setCell_below (ownsRow_setCell_below O3.out (by simp) _) (by simp) _) (by omega), (b2.setCell (by simp) _).setCell (by simp) _⟩

theorem RetP2.nil {w w' : World} {c : Value} (h : Below w.heap.size w w') : RetP2 ⟨#[]⟩ [] c w (.returned (.tuple #[.agg #[.string ⟨#[]⟩, .slice none 0 0], c])) w' := ⟨_, rfl, World.ownsRow_nil _ _ _ _, h⟩
theorem alloc_frozen {w : World} {p : Addr} (o : Obj) (h : p.block < w.heap.size) : (w.alloc o).frozen? p = w.frozen? p := ((Below.refl _ _).alloc (Nat.le_refl _) o).frozen h
theorem own_set {w : World} {base : Nat} {e : TypeId} {size : Nat} {v : Value} {n : Nat} {xs : List Value} (h : w.ownsRow base e size v n xs) {a : Addr} (hne : ∀ k, v.ownBlock = some k → a.block ≠ k) (u : Value) : (w.setCell a u).ownsRow base e size v n xs :=
  own_only h ((Only.refl (fun b => b = a.block) w).setCell rfl u) (fun k hk e => hne k hk e.symm)
set_option maxHeartbeats 800000 in
theorem orState_t (nm : ByteArray) (sv : Value) (rs : List (Int × Int × Int)) (w : World) (hnm : nm.size ≤ maxLen) (hr : Rd w sv rs.length (trips rs)) (h : profB nm rs = true) :
    Calls Tryz.prog 58 #[.agg #[.string nm, sv]] w (RetB (.tuple #[.agg #[.string nm, sv], .int .i64 0]) w) := by
  have hok := fun w' (hb : Below w.heap.size w w') => ValidProfile_c nm sv rs w' hnm (hr.later hb)
  rw [h] at hok
  obtain ⟨hn, ao, cap, b, off, rfl, hao, hcell⟩ := hr.open
  clear hcell hao hr h
  have HOK := Lib.hid hok; clear hok
  go_enter Tryz.func58, Tryz.ntmps58
  have b0 : Below w.heap.size w w := Below.refl _ _
  have z0 : w.heap.size ≤ w.heap.size := Nat.le_refl _
  go_wp2_with fail
  refine (HOK.out _ (by go_grown)).mono ?_
  rintro _ w1 ⟨rfl, r1⟩
  have s1 : Below w.heap.size w w1 := Below.trans (by go_grown) (r1.mono (by simp; try omega))
  have b1 := b0.trans (s1.mono z0)
  have z1 := b1.size
  have y1 := s1.size
  have v1 : w.heap.size + 2 ≤ w1.heap.size := by have := r1.size; simp only [World.size_alloc] at this; omega
  have c0_0_1 := below_cell r1 (p := ⟨w.heap.size, 0, none⟩) (v := .string nm) (by simp [go_sem])
  have c0_1_1 := below_cell r1 (p := ⟨w.heap.size, 1, none⟩) (v := .slice ao rs.length cap) (by simp [go_sem])
  have c1_0_1 := below_cell r1 (p := ⟨w.heap.size + 1, 0, none⟩) (v := .string ⟨#[]⟩) (by simp [go_sem])
  have c1_1_1 := below_cell r1 (p := ⟨w.heap.size + 1, 1, none⟩) (v := .slice none 0 0) (by simp [go_sem])
  have f0_1 : ∀ j, w1.frozen? ⟨w.heap.size, j, none⟩ = false := fun j => (r1.frozen (p := ⟨w.heap.size, j, none⟩) (by simp [go_sem])).trans (by simp [go_sem])
  have f1_1 : ∀ j, w1.frozen? ⟨w.heap.size + 1, j, none⟩ = false := fun j => (r1.frozen (p := ⟨w.heap.size + 1, j, none⟩) (by simp [go_sem])).trans (by simp [go_sem])
  clear r1
  go_wp2
  refine bodyPost_ret (v := .tuple #[.agg #[.string nm, .slice ao rs.length cap], .int .i64 0]) (by simp [results, Tryz.results58, go_sem, c1_0_1, c1_1_1]) rfl ?_
  exact RetB.mk rfl ((b1.setCell (by simp) _).setCell (by simp) _)
set_option maxHeartbeats 800000 in
theorem orState_f (nm : ByteArray) (sv : Value) (rs : List (Int × Int × Int)) (w : World) (hnm : nm.size ≤ maxLen) (hr : Rd w sv rs.length (trips rs)) (h : profB nm rs = false) :
    Calls Tryz.prog 58 #[.agg #[.string nm, sv]] w (RetB (.tuple #[.agg #[.string ⟨#[]⟩, .slice none 0 0], .int .i64 6]) w) := by
  have hok := fun w' (hb : Below w.heap.size w w') => ValidProfile_c nm sv rs w' hnm (hr.later hb)
  rw [h] at hok
  obtain ⟨hn, ao, cap, b, off, rfl, hao, hcell⟩ := hr.open
  clear hcell hao hr h
  have HOK := Lib.hid hok; clear hok
  go_enter Tryz.func58, Tryz.ntmps58
  have b0 : Below w.heap.size w w := Below.refl _ _
  have z0 : w.heap.size ≤ w.heap.size := Nat.le_refl _
  go_wp2_with fail
  refine (HOK.out _ (by go_grown)).mono ?_
  rintro _ w1 ⟨rfl, r1⟩
  have s1 : Below w.heap.size w w1 := Below.trans (by go_grown) (r1.mono (by simp; try omega))
  have b1 := b0.trans (s1.mono z0)
  have z1 := b1.size
  have y1 := s1.size
  have v1 : w.heap.size + 2 ≤ w1.heap.size := by have := r1.size; simp only [World.size_alloc] at this; omega
  have c0_0_1 := below_cell r1 (p := ⟨w.heap.size, 0, none⟩) (v := .string nm) (by simp [go_sem])
  have c0_1_1 := below_cell r1 (p := ⟨w.heap.size, 1, none⟩) (v := .slice ao rs.length cap) (by simp [go_sem])
  have c1_0_1 := below_cell r1 (p := ⟨w.heap.size + 1, 0, none⟩) (v := .string ⟨#[]⟩) (by simp [go_sem])
  have c1_1_1 := below_cell r1 (p := ⟨w.heap.size + 1, 1, none⟩) (v := .slice none 0 0) (by simp [go_sem])
  have f0_1 : ∀ j, w1.frozen? ⟨w.heap.size, j, none⟩ = false := fun j => (r1.frozen (p := ⟨w.heap.size, j, none⟩) (by simp [go_sem])).trans (by simp [go_sem])
  have f1_1 : ∀ j, w1.frozen? ⟨w.heap.size + 1, j, none⟩ = false := fun j => (r1.frozen (p := ⟨w.heap.size + 1, j, none⟩) (by simp [go_sem])).trans (by simp [go_sem])
  clear r1
  go_wp2
  refine bodyPost_ret (v := .tuple #[.agg #[.string ⟨#[]⟩, .slice none 0 0], .int .i64 6]) (by simp [results, Tryz.results58, go_sem, c1_0_1, c1_1_1]) rfl ?_
  exact RetB.mk rfl ((b1.setCell (by simp) _).setCell (by simp) _)
end Go.Proofs.YtgdadbmhdljcdaaGreatDoor

/- A profile with other rings: the program's reshaped. -/
namespace Go.Proofs.YtgdadbmhdljcdaaGreatDoor
set_option linter.unusedVariables false
open Go.RowKit Go.Proofs.Bell Go.BigFrame

theorem sapp1_R {ops : Array Oper} {o : Oper} {a : Act} {K : Act → World → Prop} {Q : Exit → Act → World → Prop} {E : Prop} (s x : Operand) (W : World) (base g : Nat) (v : Value) (qs : List (Int × Int × Int)) (p q r : Int)
    (ho : o.op = .call { callee := .builtin .append, args := #[s, x], argTypes := #[24, 24] }) (hgd : o.guard = none) (hg : W.heap.size = g)
    (hs : a.eval s = v) (hx : a.eval x = .slice (some ⟨g, 0, none⟩) 1 1) (hown : OwnR base W v qs) (hn : qs.length ≤ 1000000) (hbase : base ≤ W.heap.size)
    (h : ∀ v' w', OwnR base w' v' (qs ++ [(p, q, r)]) → Only (fun b => v.ownBlock = some b) W w' → K (a.put o.dst v') w') :
    if Region.wanted o (yielded ops a.tmps) = true then Oper.wp Tryz.prog o a (W.alloc (.cells #[.int .i64 p, .int .i64 q, .int .i64 r] 37)) K Q else E := by
  have hw : Region.wanted o (yielded ops a.tmps) = true := by simp [Region.wanted, hgd]
  rw [if_pos hw]
  subst hg
  obtain ⟨i0, hi, hz0, hz1, hz2⟩ := info_parts info_Ring
  refine wp_append_own _ s x 24 ho base 37 i0 _ 3 24 Tryz.underlying24 hi hz0 hz1 hz2 rfl (by decide) v qs.length (trips qs) hs (hown.alloc _) ⟨W.heap.size, 0, none⟩ 1 1 [.int .i64 p, .int .i64 q, .int .i64 r] hx rfl (World.news_of_block (cs := #[.int .i64 p, .int .i64 q, .int .i64 r]) (heap_alloc_new W _)) (fun u hu => ?_) (by unfold maxLen; omega) (by omega) (by simp; omega) ?_
  · simp at hu
    rcases hu with rfl | rfl | rfl <;> rfl
  · intro v' w' ho' hg' _
    refine h v' w' ?_ ((Only.of_below ((Below.refl _ _).alloc (Nat.le_refl _) _)).trans (Only.of_grown hg'))
    unfold OwnR
    simpa [trips] using ho'

def mapK (T : Nat → Int × Int × Int → Int × Int × Int) (ps : List (Int × Int × Int)) : Nat → List (Int × Int × Int)
  | 0 => []
  | k + 1 => mapK T ps k ++ [T k (rg ps k)]
theorem mapK_len (T : Nat → Int × Int × Int → Int × Int × Int) (ps : List (Int × Int × Int)) : ∀ k, (mapK T ps k).length = k
  | 0 => rfl
  | k + 1 => by rw [mapK, List.length_append, mapK_len T ps k]; rfl

/-- the loop's state: the boxes of the profile, of the result and of the profile that is made -/
structure Resh (B : Nat) (nm : ByteArray) (u : Value) (qs : List (Int × Int × Int)) (w wr : World) : Prop where
  below : Below B w wr
  size : B + 3 ≤ wr.heap.size
  r0 : wr.cell? ⟨B + 1, 0, none⟩ = some (.string ⟨#[]⟩)
  r1 : wr.cell? ⟨B + 1, 1, none⟩ = some (.slice none 0 0)
  rf : ∀ j, wr.frozen? ⟨B + 1, j, none⟩ = false
  q0 : wr.cell? ⟨B + 1 + 1, 0, none⟩ = some (.string nm)
  q1 : wr.cell? ⟨B + 1 + 1, 1, none⟩ = some u
  qf : ∀ j, wr.frozen? ⟨B + 1 + 1, j, none⟩ = false
  own : OwnR (B + 3) wr u qs
theorem Resh.later {B : Nat} {nm : ByteArray} {u : Value} {qs : List (Int × Int × Int)} {w wr w1 : World} (h : Resh B nm u qs w wr) (hb : Below wr.heap.size wr w1) : Resh B nm u qs w w1 :=
  ⟨h.below.trans (hb.mono (by have := h.size; omega)), Nat.le_trans h.size hb.size, below_cell hb h.r0, below_cell hb h.r1,
   fun j => (hb.frozen (p := ⟨B + 1, j, none⟩) (show B + 1 < _ from World.block_lt_of_cell? _ ⟨B + 1, 0, none⟩ h.r0)).trans (h.rf j),
   below_cell hb h.q0, below_cell hb h.q1,
   fun j => (hb.frozen (p := ⟨B + 1 + 1, j, none⟩) (show B + 1 + 1 < _ from World.block_lt_of_cell? _ ⟨B + 1 + 1, 0, none⟩ h.q0)).trans (h.qf j), own_later h.own hb⟩
theorem Resh.n2 {B : Nat} {nm : ByteArray} {u : Value} {qs : List (Int × Int × Int)} {w wr : World} (h : Resh B nm u qs w wr) : ¬ u.ownBlock = some (B + 1 + 1) := fun e => by have := own_lo h.own _ e; omega
theorem Resh.only {B : Nat} {nm : ByteArray} {u v : Value} {qs qs' : List (Int × Int × Int)} {w wr w1 : World} (h : Resh B nm u qs w wr) (hq : Only (fun b => u.ownBlock = some b) wr w1) (ho : OwnR (B + 3) w1 v qs') : Resh B nm v qs' w (w1.setCell ⟨B + 1 + 1, 1, none⟩ v) := by
  have lo := own_lo h.own
  have n1 : ¬ u.ownBlock = some (B + 1) := fun e => by have := lo _ e; omega
  have n2 : ¬ u.ownBlock = some (B + 1 + 1) := fun e => by have := lo _ e; omega
  have hz := h.size
  have hs := hq.size
  have b1 : Below B w w1 := Only.below h.below hq (by omega) (fun k hk => by have := lo k hk; omega)
  have c1 : w1.cell? ⟨B + 1 + 1, 1, none⟩ = some u := cell_only hq h.q1 n2
  refine ⟨b1.setCell (by simp; omega) _, by simp; omega, ?_, ?_, fun j => ?_, ?_, World.cell?_setCell_same _ _ _ c1, fun j => ?_, own_set ho (fun k hk => by have := own_lo ho k hk; simp; omega) v⟩
  · rw [World.cell?_setCell_other _ _ _ _ (by simp)]; exact cell_only hq h.r0 n1
  · rw [World.cell?_setCell_other _ _ _ _ (by simp)]; exact cell_only hq h.r1 n1
  · rw [World.frozen?_setCell]; exact (frozen_only hq (by simp; omega) n1).trans (h.rf j)
  · rw [World.cell?_setCell_other _ _ _ _ (by simp)]; exact cell_only hq h.q0 n2
  · rw [World.frozen?_setCell]; exact (frozen_only hq (by simp; omega) n2).trans (h.qf j)

def ringV (p : Int × Int × Int) : Value := .agg #[.int .i64 p.1, .int .i64 p.2.1, .int .i64 p.2.2]
def doneR (nm : ByteArray) (qs : List (Int × Int × Int)) : ByteArray × List (Int × Int × Int) × Int := if profB nm qs then (nm, qs, 0) else (⟨#[]⟩, [], 6)
def RetDone (base : Nat) (r : ByteArray × List (Int × Int × Int) × Int) (w : World) (e : Ending) (w' : World) : Prop := ∃ v, e = .returned (.tuple #[.agg #[.string r.1, v], .int .i64 r.2.2]) ∧ OwnR base w' v r.2.1 ∧ Below w.heap.size w w'
theorem doneR_t {nm : ByteArray} {qs : List (Int × Int × Int)} (h : profB nm qs = true) : doneR nm qs = (nm, qs, 0) := by simp [doneR, h]
theorem doneR_f {nm : ByteArray} {qs : List (Int × Int × Int)} (h : profB nm qs = false) : doneR nm qs = (⟨#[]⟩, [], 6) := by simp [doneR, h]
theorem orState_c (base : Nat) (nm : ByteArray) (v : Value) (qs : List (Int × Int × Int)) (w : World) (hnm : nm.size ≤ maxLen) (ho : OwnR base w v qs) :
    Calls Tryz.prog 58 #[.agg #[.string nm, v]] w (RetDone base (doneR nm qs) w) := by
  cases h : profB nm qs
  · rw [doneR_f h]
    refine (orState_f nm v qs w hnm (Rd.of_own ho) h).mono ?_
    rintro _ w1 ⟨rfl, r1⟩
    exact ⟨_, rfl, World.ownsRow_nil _ _ _ _, r1⟩
  · rw [doneR_t h]
    refine (orState_t nm v qs w hnm (Rd.of_own ho) h).mono ?_
    rintro _ w1 ⟨rfl, r1⟩
    exact ⟨_, rfl, own_later ho r1, r1⟩
end Go.Proofs.YtgdadbmhdljcdaaGreatDoor

/- One ring: area and volume, the program's and the reference's. -/
namespace Go.Proofs.YtgdadbmhdljcdaaGreatDoor
set_option linter.unusedVariables false
open Go.RowKit Go.Proofs.Bell Go.BigFrame

theorem sq_le {a A : Int} (ha : 0 ≤ a) (h : a ≤ A) : 0 ≤ a * a ∧ a * a ≤ A * A := mul_le_of ha ha h h

def secI (o i : Int) : Int := o * o - i * i
theorem secI_bd {o i h : Int} (hh : ringB o i h = true) : 0 ≤ secI o i ∧ secI o i ≤ 22500000000 ∧ 0 ≤ o * o ∧ o * o ≤ 22500000000 ∧ 0 ≤ i * i ∧ i * i ≤ 22500000000 := by
  obtain ⟨h1, h2, h3, h4, h5, h6⟩ := ringB_t hh
  have a := sq_le (a := o) (A := 150000) (by omega) h2
  have b := sq_le (a := i) (A := 150000) h3 (by omega)
  have c : i * i ≤ o * o := Int.mul_le_mul (by omega) (by omega) h3 (by omega)
  unfold secI
  omega

theorem rnd_nonneg {a b : Int} (ha : 0 ≤ a) (hb : 1 ≤ b) : 0 ≤ rnd a b := by
  unfold rnd; rw [if_neg (by omega)]; exact Int.ediv_nonneg (by omega) (by omega)
/-- a quotient of a bounded number -/
theorem rnd_le {a b q : Int} (ha : 0 ≤ a) (hb : 1 ≤ b) (h : 2 * a + b < 2 * b * (q + 1)) : rnd a b ≤ q := by
  unfold rnd; rw [if_neg (by omega)]
  exact Int.lt_add_one_iff.mp (Int.ediv_lt_of_lt_mul (by omega) (by rw [show (q + 1) * (2 * b) = 2 * b * (q + 1) from Int.mul_comm _ _]; exact h))

def tubeI (sq h : Int) : Int := rnd (rnd (sq * h) 1000000 * 3141593) 1000000
theorem tube_bd {sq h : Int} (h1 : 0 ≤ sq) (h2 : sq ≤ 22500000000) (h3 : 0 ≤ h) (h4 : h ≤ 300000) :
    0 ≤ sq * h ∧ sq * h ≤ 6750000000000000 ∧ 0 ≤ rnd (sq * h) 1000000 ∧ rnd (sq * h) 1000000 ≤ 6750000000 ∧ 0 ≤ tubeI sq h ∧ tubeI sq h ≤ 21205752750 := by
  have a := mul_le_of h1 h3 h2 h4
  have b := rnd_nonneg (a := sq * h) (b := 1000000) a.1 (by omega)
  have c := rnd_le (a := sq * h) (b := 1000000) (q := 6750000000) a.1 (by omega) (by omega)
  have d := rnd_nonneg (a := rnd (sq * h) 1000000 * 3141593) (b := 1000000) (by omega) (by omega)
  have e := rnd_le (a := rnd (sq * h) 1000000 * 3141593) (b := 1000000) (q := 21205752750) (by omega) (by omega) (by omega)
  unfold tubeI
  omega

def areaI (o i h : Int) : Int × Int := if ringB o i h then (rnd (secI o i * 3141593) 10000000000, 0) else (0, 1)
def rvolI (o i h : Int) : Int × Int := if ringB o i h then (tubeI (secI o i) h, 0) else (0, 1)

theorem area_bd {o i h : Int} (hh : ringB o i h = true) : 0 ≤ secI o i * 3141593 ∧ secI o i * 3141593 ≤ 4000000000000000000 := by
  have := secI_bd hh; omega

end Go.Proofs.YtgdadbmhdljcdaaGreatDoor

/- Volumes of profiles. -/
namespace Go.Proofs.YtgdadbmhdljcdaaGreatDoor
set_option linter.unusedVariables false
open Go.RowKit Go.Proofs.Bell Go.BigFrame

def fsum (f : Int × Int × Int → Int) (rs : List (Int × Int × Int)) : Int := (rs.map f).sum
theorem fsum_snoc (f : Int × Int × Int → Int) (ps : List (Int × Int × Int)) {k : Nat} (h : k < ps.length) : fsum f (ps.take (k + 1)) = fsum f (ps.take k) + f (rg ps k) := by
  show ((ps.take (k + 1)).map f).sum = ((ps.take k).map f).sum + _
  rw [rg_eq h, List.take_succ_eq_append_getElem h, List.map_append, List.sum_append]; simp
theorem all_at {f : Int × Int × Int → Bool} {ps : List (Int × Int × Int)} (h : ps.all f = true) {k : Nat} (hk : k < ps.length) : f (rg ps k) = true := by
  rw [rg_eq hk]; exact List.all_eq_true.1 h ps[k] (List.getElem_mem hk)
theorem fsum_bd {f : Int × Int × Int → Int} {M : Int} {ps : List (Int × Int × Int)} (hM : 0 ≤ M) (hf : ∀ p, ringT p = true → 0 ≤ f p ∧ f p ≤ M) (h : ps.all ringT = true) : ∀ k, 0 ≤ fsum f (ps.take k) ∧ fsum f (ps.take k) ≤ M * k := by
  intro k
  induction k with
  | zero => simp [fsum]
  | succ k ih =>
    have e : M * ((k + 1 : Nat) : Int) = M * k + M := by rw [Int.natCast_add, Int.mul_add]; simp
    rcases Nat.lt_or_ge k ps.length with hk | hk
    · rw [fsum_snoc f ps hk, e]
      have h1 := hf _ (all_at h hk)
      omega
    · rw [List.take_of_length_le (by omega)] at ih ⊢; rw [e]; omega

def rvolT (p : Int × Int × Int) : Int := tubeI (secI p.1 p.2.1) p.2.2
def hvolT (p : Int × Int × Int) : Int := tubeI (p.2.1 * p.2.1) p.2.2
theorem rvolT_bd {p : Int × Int × Int} (h : ringT p = true) : 0 ≤ rvolT p ∧ rvolT p ≤ 21205752750 := by
  have a := secI_bd (o := p.1) (i := p.2.1) (h := p.2.2) h
  have r := ringT_t h
  have t := tube_bd (sq := secI p.1 p.2.1) (h := p.2.2) a.1 a.2.1 (by omega) (by omega)
  exact ⟨t.2.2.2.2.1, t.2.2.2.2.2⟩
theorem hvolT_bd {p : Int × Int × Int} (h : ringT p = true) : 0 ≤ hvolT p ∧ hvolT p ≤ 21205752750 := by
  have a := secI_bd (o := p.1) (i := p.2.1) (h := p.2.2) h
  have r := ringT_t h
  have t := tube_bd (sq := p.2.1 * p.2.1) (h := p.2.2) a.2.2.2.2.1 a.2.2.2.2.2 (by omega) (by omega)
  exact ⟨t.2.2.2.2.1, t.2.2.2.2.2⟩
def volI (rs : List (Int × Int × Int)) : Int := fsum rvolT rs
def holI (rs : List (Int × Int × Int)) : Int := fsum hvolT rs
def volumeI (nm : ByteArray) (rs : List (Int × Int × Int)) : Int × Int := if profB nm rs then (volI rs, 0) else (0, 1)
def hollowI (nm : ByteArray) (rs : List (Int × Int × Int)) : Int × Int := if profB nm rs then (holI rs, 0) else (0, 1)

end Go.Proofs.YtgdadbmhdljcdaaGreatDoor

/- A list of one's own, changed in place. -/
namespace Go.Proofs.YtgdadbmhdljcdaaGreatDoor
set_option linter.unusedVariables false
open Go.RowKit Go.Proofs.Bell Go.BigFrame

theorem trips_cons (a : Int × Int × Int) (qs : List (Int × Int × Int)) : trips (a :: qs) = .int .i64 a.1 :: .int .i64 a.2.1 :: .int .i64 a.2.2 :: trips qs := by simp [trips]
theorem trips_put0 : ∀ (qs : List (Int × Int × Int)) (k : Nat) (z : Int), k < qs.length → (trips qs).set (k * 3) (.int .i64 z) = trips (qs.set k (z, (rg qs k).2))
  | [], _, _, h => by simp at h
  | a :: qs, 0, z, _ => by simp [trips_cons, rg]
  | a :: qs, k + 1, z, h => by
    rw [show (k + 1) * 3 = k * 3 + 1 + 1 + 1 by omega, trips_cons, List.set_cons_succ, List.set_cons_succ, List.set_cons_succ, trips_put0 qs k z (by simpa using h), List.set_cons_succ, trips_cons]
    simp [rg]
theorem trips_put1 : ∀ (qs : List (Int × Int × Int)) (k : Nat) (z : Int), k < qs.length → (trips qs).set (k * 3 + 1) (.int .i64 z) = trips (qs.set k ((rg qs k).1, z, (rg qs k).2.2))
  | [], _, _, h => by simp at h
  | a :: qs, 0, z, _ => by simp [trips_cons, rg]
  | a :: qs, k + 1, z, h => by
    rw [show (k + 1) * 3 + 1 = (k * 3 + 1) + 1 + 1 + 1 by omega, trips_cons, List.set_cons_succ, List.set_cons_succ, List.set_cons_succ, trips_put1 qs k z (by simpa using h), List.set_cons_succ, trips_cons]
    simp [rg]

/-- the first `k` elements changed -/
def mixK (T : Nat → Int × Int × Int → Int × Int × Int) (ps : List (Int × Int × Int)) (k : Nat) : List (Int × Int × Int) := mapK T ps k ++ ps.drop k
theorem mix_len (T : Nat → Int × Int × Int → Int × Int × Int) {ps : List (Int × Int × Int)} {k : Nat} (h : k ≤ ps.length) : (mixK T ps k).length = ps.length := by
  simp [mixK, mapK_len]; omega
theorem mix_at (T : Nat → Int × Int × Int → Int × Int × Int) {ps : List (Int × Int × Int)} {k j : Nat} (h : k ≤ j) (hj : j < ps.length) : rg (mixK T ps k) j = rg ps j := by
  have : (mixK T ps k)[j]? = ps[j]? := by
    rw [mixK, List.getElem?_append_right (by rw [mapK_len]; exact h), mapK_len, List.getElem?_drop]
    congr 1; omega
  simp [rg, List.getD, this]
theorem mix_set (T : Nat → Int × Int × Int → Int × Int × Int) {ps : List (Int × Int × Int)} {k : Nat} (h : k < ps.length) : (mixK T ps k).set k (T k (rg ps k)) = mixK T ps (k + 1) := by
  have h1 : ps.drop k = rg ps k :: ps.drop (k + 1) := by rw [rg_eq h]; exact List.drop_eq_getElem_cons h
  rw [mixK, List.set_append_right _ _ (by rw [mapK_len]; exact Nat.le_refl _), mapK_len, h1, Nat.sub_self, List.set_cons_zero, mixK, mapK]
  simp
theorem mix_zero (T : Nat → Int × Int × Int → Int × Int × Int) (ps : List (Int × Int × Int)) : mixK T ps 0 = ps := by simp [mixK, mapK]
theorem mix_end (T : Nat → Int × Int × Int → Int × Int × Int) (ps : List (Int × Int × Int)) : mixK T ps ps.length = mapK T ps ps.length := by simp [mixK]

/-- the state of a walk that changes its own list: the boxes of the result and of the profile -/
structure InPl (R G : Nat) (nm : ByteArray) (v : Value) (qs : List (Int × Int × Int)) (w wr : World) : Prop where
  below : Below w.heap.size w wr
  lo : w.heap.size ≤ R
  r0 : wr.cell? ⟨R, 0, none⟩ = some (.string ⟨#[]⟩)
  r1 : wr.cell? ⟨R, 1, none⟩ = some (.slice none 0 0)
  rf : ∀ j, wr.frozen? ⟨R, j, none⟩ = false
  q0 : wr.cell? ⟨G, 0, none⟩ = some (.string nm)
  q1 : wr.cell? ⟨G, 1, none⟩ = some v
  own : OwnR (R + 1) wr v qs
  ne : ∀ k, v.ownBlock = some k → R ≠ k ∧ G ≠ k
theorem InPl.later {R G : Nat} {nm : ByteArray} {v : Value} {qs : List (Int × Int × Int)} {w wr w1 : World} (h : InPl R G nm v qs w wr) (hb : Below wr.heap.size wr w1) : InPl R G nm v qs w w1 :=
  ⟨h.below.trans (hb.mono h.below.size), h.lo, below_cell hb h.r0, below_cell hb h.r1,
   fun j => (hb.frozen (p := ⟨R, j, none⟩) (show R < _ from World.block_lt_of_cell? _ ⟨R, 0, none⟩ h.r0)).trans (h.rf j),
   below_cell hb h.q0, below_cell hb h.q1, own_later h.own hb, h.ne⟩
theorem InPl.put {R G : Nat} {nm : ByteArray} {g n cap : Nat} {qs qs' : List (Int × Int × Int)} {w wr : World} (h : InPl R G nm (.slice (some ⟨g, 0, none⟩) n cap) qs w wr) (hn : n = qs.length) (j : Nat) (u : Value) (hl : qs'.length = qs.length) (he : (trips qs).set j u = trips qs') :
    InPl R G nm (.slice (some ⟨g, 0, none⟩) n cap) qs' w (wr.setCell ⟨g, j, none⟩ u) := by
  subst hn
  obtain ⟨n1, n2⟩ := h.ne g rfl
  have hg := own_lo h.own g rfl
  refine ⟨h.below.setCell (show w.heap.size ≤ g by have := h.lo; omega) _, h.lo, ?_, ?_, fun j => ?_, ?_, ?_, ?_, h.ne⟩
  · rw [World.cell?_setCell_other _ _ _ _ (by simp [n1])]; exact h.r0
  · rw [World.cell?_setCell_other _ _ _ _ (by simp [n1])]; exact h.r1
  · rw [World.frozen?_setCell]; exact h.rf j
  · rw [World.cell?_setCell_other _ _ _ _ (by simp [n2])]; exact h.q0
  · rw [World.cell?_setCell_other _ _ _ _ (by simp [n2])]; exact h.q1
  · have := (World.ownsRow.stored h.own j u).1
    unfold OwnR
    rw [hl, ← he]
    exact this
theorem InPl.cells {R G : Nat} {nm : ByteArray} {g n cap : Nat} {qs : List (Int × Int × Int)} {w wr : World} (h : InPl R G nm (.slice (some ⟨g, 0, none⟩) n cap) qs w wr) (hn : n = qs.length) {k : Nat} (hk : k < n) :
    wr.cell? ⟨g, k * 3, none⟩ = some (.int .i64 (rg qs k).1) ∧ wr.cell? ⟨g, k * 3 + 1, none⟩ = some (.int .i64 (rg qs k).2.1) ∧ wr.cell? ⟨g, k * 3 + 2, none⟩ = some (.int .i64 (rg qs k).2.2) := by
  subst hn
  have t := trips_at hk
  rw [← rg_eq hk] at t
  exact ⟨(World.ownsRow.cellAt h.own _ (by omega)).trans t.1, (World.ownsRow.cellAt h.own _ (by omega)).trans t.2.1, (World.ownsRow.cellAt h.own _ (by omega)).trans t.2.2⟩
theorem InPl.frozen {R G : Nat} {nm : ByteArray} {g n cap : Nat} {qs : List (Int × Int × Int)} {w wr : World} (h : InPl R G nm (.slice (some ⟨g, 0, none⟩) n cap) qs w wr) (hn : n = qs.length) (j : Nat) : wr.frozen? ⟨g, j, none⟩ = false := by
  subst hn
  exact World.ownsRow.frozenAt h.own j

end Go.Proofs.YtgdadbmhdljcdaaGreatDoor

