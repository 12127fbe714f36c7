/- Several texts of the proofs in one: Ins, InsR, InsR2, InsR3, InsI, InsW, InsS. -/
import Derived.Test.YtgdadbmhdljcdaaGreatDoorUA
import Derived.Laws.Externs
import Derived.Laws.IdiomCopy
import Derived.Laws.NewBlocks
import Derived.Lib.AppendZerosOnto
import Derived.Lib.Overlaps
/- Elements are put into a list: the copy of rings, the make of rings, rows widened. -/
namespace Go.Proofs.YtgdadbmhdljcdaaGreatDoor
set_option linter.unusedVariables false
open Go.RowKit Go.Proofs.Bell Go.BigFrame

theorem run_copy_R (w : World) (ty : TypeId) (b o m dLen dCap : Nat) (a : Addr) (sLen sCap : Nat) (cs : List Value)
    (hm : m = Nat.min sLen dLen) (hn : cs.length = m * 3)
    (hsrc : ∀ j v, cs[j]? = some v → w.cell? (a.add j) = some v) (hc : ∀ j, j < cs.length → (w.cell? ⟨b, o + j, none⟩).isSome = true) (hf : ∀ j, j < cs.length → w.frozen? ⟨b, o + j, none⟩ = false) (h1 : ∀ v ∈ cs, v.oneCell' = true) :
    (Builtin.copy_ #[24, 24] ty #[.slice (some ⟨b, o, none⟩) dLen dCap, .slice (some a) sLen sCap]).run Tryz.prog w = .ok (goInt m) (w.setCells b o cs) := by
  have hl := run_loadCells_list (P := Tryz.prog) w a cs hsrc
  have hst := run_storeCells_cells (P := Tryz.prog) b o cs 0 w (by simpa using hc) (by simpa using hf) h1
  obtain ⟨i0, hi0, hz0, hz1, hz2⟩ := info_parts info_Ring
  rw [hn] at hl
  simp [Builtin.copy_, run_underlying Tryz.underlying24, Builtin.lenOf, Builtin.firstCells, sizeOf, typeInfo, hi0, hz1, ← hm, hl, hst]
theorem own_widen {base : Nat} {e : TypeId} {size g n m cap : Nat} {w : World} {xs : List Value} (h : w.ownsRow base e size (.slice (some ⟨g, 0, none⟩) n cap) n xs) (hm : n ≤ m) (hc : m ≤ cap) :
    ∃ ys, w.ownsRow base e size (.slice (some ⟨g, 0, none⟩) m cap) m (xs ++ ys) := by
  have hle : n * size ≤ m * size := Nat.mul_le_mul_right _ hm
  have hle2 : m * size ≤ cap * size := Nat.mul_le_mul_right _ hc
  rcases h.2 with ⟨h', _⟩ | ⟨g', cap', cur, h', hb, hg, hnc, hcm, hcs, htake⟩
  · simp at h'
  · simp only [Value.slice.injEq, Option.some.injEq, Addr.mk.injEq, and_true, true_and] at h'
    obtain ⟨rfl, rfl⟩ := h'
    refine ⟨(cur.toList.take (m * size)).drop (n * size), ?_⟩
    have e : xs ++ (cur.toList.take (m * size)).drop (n * size) = cur.toList.take (m * size) := by
      rw [← htake, show cur.toList.take (n * size) = (cur.toList.take (m * size)).take (n * size) by rw [List.take_take, Nat.min_eq_left hle], List.take_append_drop]
    rw [e]
    refine ⟨?_, .inr ⟨g, cap, cur, rfl, hb, hg, hc, hcm, hcs, rfl⟩⟩
    rw [List.length_take, Array.length_toList, hcs]
    omega
theorem own_of_row {base : Nat} {e : TypeId} {size n cap : Nat} {w : World} {cur : Array Value} (hb : base ≤ w.heap.size) (hm : cap ≤ maxLen) (hs : cur.size = cap * size) (hn : n ≤ cap) :
    (w.alloc (.cells cur e)).ownsRow base e size (.slice (some ⟨w.heap.size, 0, none⟩) n cap) n (cur.toList.take (n * size)) := by
  have hle2 : n * size ≤ cap * size := Nat.mul_le_mul_right _ hn
  refine ⟨?_, .inr ⟨w.heap.size, cap, cur, rfl, hb, heap_alloc_new w _, hn, hm, hs, rfl⟩⟩
  rw [List.length_take, Array.length_toList, hs]
  omega
/-- a ring laid between two parts -/
theorem put_in {ps : List (Int × Int × Int)} {i : Nat} (hi : i ≤ ps.length) (r : Int × Int × Int) {xs : List Value} (hl : xs.length = (ps.length + 1) * 3) (h0 : xs.take (i * 3) = trips (ps.take i)) :
    layL (layL xs (i * 3) (trips [r])) ((i + 1) * 3) (trips (ps.drop i)) = trips (ps.take i ++ r :: ps.drop i) ∧ layL (layL xs ((i + 1) * 3) (trips (ps.drop i))) (i * 3) (trips [r]) = trips (ps.take i ++ r :: ps.drop i) := by
  have l1 := trips_len (ps.drop i)
  have l2 := trips_len (ps.take i)
  rw [List.length_drop] at l1
  rw [List.length_take] at l2
  have l3 : (trips [r]).length = 3 := by simp [trips]
  have hd : trips (r :: ps.drop i) = trips [r] ++ trips (ps.drop i) := by rw [← trips_app]; rfl
  constructor
  · apply List.ext_getElem?
    intro t
    rw [layL_get _ _ _ _ (by rw [layL_len]; omega), layL_get _ _ _ _ (by omega), trips_app, hd]
    by_cases c : t < i * 3
    · rw [if_neg (by omega), if_neg (by omega), List.getElem?_append_left (by omega), ← h0, List.getElem?_take, if_pos c]
    · rw [List.getElem?_append_right (by omega)]
      by_cases d : t < i * 3 + 3
      · rw [if_neg (by omega), if_pos (by omega), List.getElem?_append_left (by omega)]
        congr 1; omega
      · rw [List.getElem?_append_right (by omega)]
        by_cases f : t < (ps.length + 1) * 3
        · rw [if_pos (by omega)]
          congr 1; omega
        · rw [if_neg (by omega), if_neg (by omega), List.getElem?_eq_none (by omega), List.getElem?_eq_none (by omega)]
  · apply List.ext_getElem?
    intro t
    rw [layL_get _ _ _ _ (by rw [layL_len]; omega), layL_get _ _ _ _ (by omega), trips_app, hd]
    by_cases c : t < i * 3
    · rw [if_neg (by omega), if_neg (by omega), List.getElem?_append_left (by omega), ← h0, List.getElem?_take, if_pos c]
    · rw [List.getElem?_append_right (by omega)]
      by_cases d : t < i * 3 + 3
      · rw [if_pos (by omega), List.getElem?_append_left (by omega)]
        congr 1; omega
      · rw [List.getElem?_append_right (by omega)]
        by_cases f : t < (ps.length + 1) * 3
        · rw [if_neg (by omega), if_pos (by omega)]
          congr 1; omega
        · rw [if_neg (by omega), if_neg (by omega), List.getElem?_eq_none (by omega), List.getElem?_eq_none (by omega)]
theorem trips_one {ps : List (Int × Int × Int)} : ∀ v ∈ trips ps, v.oneCell' = true := fun u hu => by
  obtain ⟨p, _, hp⟩ := List.mem_flatMap.1 hu
  simp at hp
  rcases hp with rfl | rfl | rfl <;> rfl

end Go.Proofs.YtgdadbmhdljcdaaGreatDoor

/- slices.Insert at rings: one ring. -/
namespace Go.Proofs.YtgdadbmhdljcdaaGreatDoor
set_option linter.unusedVariables false
open Go.RowKit Go.Proofs.Bell Go.BigFrame

theorem drew_setCells' (b : Nat) : ∀ (vs : List Value) (o : Nat) (w : World), (w.setCells b o vs).drew = w.drew.setCells b o vs
  | [], _, _ => rfl
  | v :: r, o, w => by rw [World.setCells, World.setCells, drew_setCells' b r]; rfl
theorem wp_copy_runR (w : World) {o : Oper} {a : Act} {K : Act → World → Prop} {Q : Exit → Act → World → Prop} (d s : Operand) (t t' : TypeId)
    (ho : o.op = .call { callee := .builtin .copy, args := #[d, s], argTypes := #[t, t'] }) (v u : Value) (hd : a.eval d = v) (hs : a.eval s = u) {v' : Value} {w' : World}
    (hr : (Builtin.copy_ #[t, t'] o.type #[v, u]).run Tryz.prog w = .ok v' w') (h : K (a.put o.dst v') w') : o.wp Tryz.prog a w K Q := by
  unfold Oper.wp execOp
  simp only [ho, resolve, invoke, builtin, Sem.run_bind, Sem.run_pure, Result.andThen_ok, List.map_toArray, List.map_cons, List.map_nil, hd, hs, hr]
  exact h
theorem wpList_copy_runR (w : World) {ops : Array Oper} {rest : List Oper} {o : Oper} {a : Act} {Q : Exit → Act → World → Prop} (hgd : o.guard = none) (d s : Operand) (t t' : TypeId)
    (ho : o.op = .call { callee := .builtin .copy, args := #[d, s], argTypes := #[t, t'] }) (v u : Value) (hd : a.eval d = v) (hs : a.eval s = u) {v' : Value} {w' : World}
    (hr : (Builtin.copy_ #[t, t'] o.type #[v, u]).run Tryz.prog w = .ok v' w') (h : wpList Tryz.prog ops Q rest (a.put o.dst v') w') : wpList Tryz.prog ops Q (o :: rest) a w :=
  wpList_plain hgd fun _ hK => wp_copy_runR w d s t t' ho v u hd hs hr (hK _ _ h)
theorem step_copy_runR {ops : Array Oper} {o : Oper} {a : Act} {w : World} {K : Act → World → Prop} {Q : Exit → Act → World → Prop} {E : Prop}
    (hg : o.guard = none) (d x : Operand) (dT sT : TypeId) (hop : o.op = Op.call { callee := Callee.builtin Builtin.copy, args := #[d, x], argTypes := #[dT, sT] })
    (v u : Value) (hd : a.eval d = v) (hx : a.eval x = u) {v' : Value} {w' : World} (hr : (Builtin.copy_ #[dT, sT] o.type #[v, u]).run Tryz.prog w = .ok v' w') (hK : K (a.put o.dst v') w') :
    if Region.wanted o (yielded ops a.tmps) = true then Oper.wp Tryz.prog o a w K Q else E := by
  have hw : Region.wanted o (yielded ops a.tmps) = true := by simp [Region.wanted, hg]
  rw [if_pos hw]
  unfold Oper.wp
  simp [execOp, hop, resolve, invoke, builtin, hd, hx, hr, Result.andThen]
  exact hK

def RetIns (base g : Nat) (rs : List (Int × Int × Int)) (w : World) (e : Ending) (w' : World) : Prop := ∃ v, e = .returned v ∧ OwnR base w' v rs ∧ Only (fun b => b = g) w w'
def ringO (r : Int × Int × Int) : Obj := .cells #[.int .i64 r.1, .int .i64 r.2.1, .int .i64 r.2.2] 37 (0, 0)
theorem ring_cells {w : World} {vb : Nat} {r : Int × Int × Int} (h : w.heap[vb]? = some (ringO r)) : ∀ j v, (trips [r])[j]? = some v → w.cell? ((⟨vb, 0, none⟩ : Addr).add j) = some v := fun j v hj => by
  rw [add_norm _ rfl, Nat.zero_add, cell_of_row w vb j _ _ _ h]
  simpa [trips] using hj

set_option maxRecDepth 100000 in
set_option maxHeartbeats 1600000 in
theorem InsertEnd_c (base g cap vb : Nat) (rs : List (Int × Int × Int)) (r : Int × Int × Int) (w : World) (h : OwnR base w (.slice (some ⟨g, 0, none⟩) rs.length cap) rs) (hbase : base ≤ w.heap.size) (hv : w.heap[vb]? = some (ringO r)) (hm : rs.length ≤ 1000) :
    Calls Tryz.prog 59 #[.slice (some ⟨g, 0, none⟩) rs.length cap, .int .i64 rs.length, .slice (some ⟨vb, 0, none⟩) 1 1] w (RetIns base g (rs ++ [r]) w) := by
  have hnc := rd_cap (Rd.of_own h)
  have hvc := ring_cells hv
  have hn0 : ¬ (cap < rs.length) := by omega
  have H := Lib.hid h; clear h
  have HVC := Lib.hid hvc; clear hvc
  clear hv
  go_enter Tryz.func59, Tryz.ntmps59
  go_wp2_with (at_builtin; refine appA_R (.tmp 23) (.tmp 24) _ base _ rs [r] ⟨vb, 0, none⟩ 1 1 (by rfl) (by rfl) (by rfl) (by rfl) rfl H.out HVC.out (by omega) (by omega) hbase ?_; intro v2 w2 o2 q2)
  all_goals (
    go_returns
    exact ⟨v2, rfl, o2, q2.mono (fun b e => by simpa [Value.ownBlock, eq_comm] using e)⟩)

theorem overlap_apart {w : World} {vb g off : Nat} {r : Int × Int × Int} {cur : Array Value} {tB : TypeId} {fz : Nat × Nat} (h : w.heap[vb]? = some (ringO r)) (hg : w.heap[g]? = some (.cells cur tB fz)) (hne : vb ≠ g) (hc : cur.size ≠ 0) (lb cb : Nat) :
    (callFunc 113 #[.slice (some ⟨vb, 0, none⟩) 1 1, .slice (some ⟨g, off, none⟩) lb cb]).run Tryz.prog w = .ok (.value (.bool false)) w := by
  obtain ⟨i0, hi0, hz0, hz1, hz2⟩ := info_parts info_Ring
  have hsz : ∀ w, (Go.sizeOf 37).run Tryz.prog w = .ok 3 w := fun w => by simp [sizeOf, typeInfo, hi0, hz1]
  have s1 : w.shape? vb = some (37, 3) := by simp [World.shape?, h, ringO]
  have s2 : w.shape? g = some (tB, cur.size) := by simp [World.shape?, hg]
  rw [run_callFunc_extern Tryz.func113 (by kernel_rfl) (by kernel_rfl) (by kernel_rfl) (e := Extern.SlicesOverlaps.overlaps #[24, 24] #[4]) (by kernel_rfl),
    Lib.run_overlaps_apart w 24 4 37 Tryz.underlying24 3 hsz ⟨vb, 0, none⟩ ⟨g, off, none⟩ 1 1 lb cb hne 37 tB 3 cur.size s1 s2 hc (by simp [World.frozen?, h, ringO]) (by simp [World.frozen?, h, ringO])]
  rfl

end Go.Proofs.YtgdadbmhdljcdaaGreatDoor

/- slices.Insert at rings, where there is room, and where there is none. -/
namespace Go.Proofs.YtgdadbmhdljcdaaGreatDoor
set_option linter.unusedVariables false
open Go.RowKit Go.Proofs.Bell Go.BigFrame

set_option maxRecDepth 100000 in
set_option maxHeartbeats 3200000 in
theorem InsertRoom_c (base g cap i vb : Nat) (rs : List (Int × Int × Int)) (r : Int × Int × Int) (w : World) (h : OwnR base w (.slice (some ⟨g, 0, none⟩) rs.length cap) rs) (hv : w.heap[vb]? = some (ringO r)) (hne : vb ≠ g) (hi : i < rs.length) (hroom : rs.length + 1 ≤ cap) (hm : rs.length ≤ 1000) :
    Calls Tryz.prog 59 #[.slice (some ⟨g, 0, none⟩) rs.length cap, .int .i64 i, .slice (some ⟨vb, 0, none⟩) 1 1] w (RetIns base g (rs.take i ++ r :: rs.drop i) w) := by
  have hvc := ring_cells hv
  obtain ⟨ys, hw⟩ := own_widen h (m := rs.length + 1) (by omega) hroom
  obtain ⟨c0, cur, hcur, hcm, hcsz⟩ : ∃ c0 cur, w.heap[g]? = some (.cells cur 37 c0) ∧ cap ≤ maxLen ∧ cur.size = cap * 3 := by
    rcases h.2 with ⟨h', _⟩ | ⟨g', cap', cur, h', _, h1, _, h2, h3, _⟩
    · simp at h'
    · simp only [Value.slice.injEq, Option.some.injEq, Addr.mk.injEq, and_true, true_and] at h'
      obtain ⟨rfl, rfl⟩ := h'
      exact ⟨_, cur, h1, h2, h3⟩
  have hov := fun off lb cb => overlap_apart (off := off) hv hcur hne (by omega) lb cb
  have hxl : (trips rs ++ ys).length = (rs.length + 1) * 3 := hw.1
  have h3 := trips_len rs
  have hpi := put_in (Nat.le_of_lt hi) r hxl (by rw [List.take_append_of_le_length (by omega), trips_take])
  have hd : w.drew.ownsRow base 37 3 (.slice (some ⟨g, 0, none⟩) (rs.length + 1) cap) (rs.length + 1) (trips rs ++ ys) := hw
  have hcell : ∀ t, t < (rs.length + 1) * 3 → w.drew.cell? ⟨g, t, none⟩ = (trips rs ++ ys)[t]? := fun t ht => World.ownsRow.cellAt hd t ht
  have hl1 : (trips (rs.drop i)).length = (rs.length - i) * 3 := by rw [trips_len, List.length_drop]
  have hsp : ∀ t, t < (rs.length + 1) * 3 → (w.drew.cell? ⟨g, t, none⟩).isSome = true := fun t ht => by rw [hcell t ht, List.getElem?_eq_getElem (by omega)]; rfl
  have hcp1 : ∀ ty dc sc, (Builtin.copy_ #[24, 24] ty #[.slice (some ⟨g, (i + 1) * 3, none⟩) (rs.length - i) dc, .slice (some ⟨g, i * 3, none⟩) (rs.length + 1 - i) sc]).run Tryz.prog w.drew = .ok (goInt ((rs.length - i : Nat) : Int)) (w.drew.setCells g ((i + 1) * 3) (trips (rs.drop i))) := fun ty dc sc =>
    run_copy_R w.drew ty g ((i + 1) * 3) (rs.length - i) (rs.length - i) dc ⟨g, i * 3, none⟩ (rs.length + 1 - i) sc _ (by simp only [Nat.min_def]; split <;> omega) hl1
      (fun j v hj => by
        have h1 := (List.getElem?_eq_some_iff.1 hj).1
        rw [add_norm _ rfl, hcell _ (show i * 3 + j < _ by omega), List.getElem?_append_left (by omega)]
        rw [← trips_drop, List.getElem?_drop] at hj
        exact hj)
      (fun j hj => hsp _ (by omega)) (fun j hj => World.ownsRow.frozenAt hd _) trips_one
  have ho1 := own_setCells (trips (rs.drop i)) ((i + 1) * 3) _ _ hd
  have ho2 := own_setCells (trips [r]) (i * 3) _ _ ho1
  rw [hpi.2] at ho2
  have hlen : (rs.take i ++ r :: rs.drop i).length = rs.length + 1 := by rw [List.length_append, List.length_cons, List.length_take, List.length_drop]; omega
  have hfin : RetIns base g (rs.take i ++ r :: rs.drop i) w (.returned (.slice (some ⟨g, 0, none⟩) (rs.length + 1) cap)) ((w.drew.setCells g ((i + 1) * 3) (trips (rs.drop i))).setCells g (i * 3) (trips [r])) :=
    ⟨_, rfl, by unfold OwnR; rw [hlen]; exact ho2, only_setCells _ _ _ _ (only_setCells _ _ _ _ (Only.of_below ⟨rfl, rfl, rfl, Nat.le_refl _, fun _ _ => rfl⟩))⟩
  obtain ⟨W1, hW1⟩ : ∃ W1, W1 = w.drew.setCells g ((i + 1) * 3) (trips (rs.drop i)) := ⟨_, rfl⟩
  have hvc1 : ∀ j v, (trips [r])[j]? = some v → W1.cell? ((⟨vb, 0, none⟩ : Addr).add j) = some v := fun j v hj => by
    rw [hW1, World.cell?_setCells_out _ _ _ _ _ (fun e _ => absurd (by rw [add_norm _ rfl] at e; exact e) hne)]
    exact hvc j v hj
  rw [← hW1] at hcp1 hfin ho1
  have hcp2 : ∀ ty dc, (Builtin.copy_ #[24, 24] ty #[.slice (some ⟨g, i * 3, none⟩) (rs.length + 1 - i) dc, .slice (some ⟨vb, 0, none⟩) 1 1]).run Tryz.prog W1 = .ok (goInt ((1 : Nat) : Int)) (W1.setCells g (i * 3) (trips [r])) := fun ty dc =>
    run_copy_R W1 ty g (i * 3) 1 (rs.length + 1 - i) dc ⟨vb, 0, none⟩ 1 1 _ (by simp only [Nat.min_def]; split <;> omega) (by simp [trips]) hvc1
      (fun j hj => by
        have hj3 : j < 3 := by simpa [trips] using hj
        rw [World.ownsRow.cellAt ho1 _ (by omega), List.getElem?_eq_getElem (by rw [layL_len]; omega)]; rfl)
      (fun j hj => World.ownsRow.frozenAt ho1 _) trips_one
  have hw1 : IntKind.i64.wrap ((i : Int) + 1) = (i : Int) + 1 := IntWalk.i64_in _ (by omega)
  have hw2 : IntKind.i64.wrap ((rs.length : Int) + 1) = (rs.length : Int) + 1 := IntWalk.i64_in _ (by omega)
  have b1 : (0 : Int) ≤ (i : Int) + 1 := by omega
  have b2 : (i : Int) + 1 ≤ (rs.length : Int) + 1 := by omega
  have b3 : ((i : Int) + 1).toNat = i + 1 := by omega
  have b4 : ((rs.length : Int) + 1).toNat = rs.length + 1 := by omega
  have b5 : (0 : Int) ≤ (rs.length : Int) + 1 := by omega
  have b6 : (rs.length : Int) + 1 ≤ (cap : Int) := by omega
  have b7 : ¬ (cap = i) := by omega
  have b8 : ¬ (cap = i + 1) := by omega
  have b9 : i ≤ rs.length := by omega
  have b10 : i ≤ rs.length + 1 := by omega
  have b11 : decide ((cap : Int) < (rs.length : Int) + 1) = false := decide_eq_false (by omega)
  have b12 : ¬ ((i : Int) = (rs.length : Int)) := by omega
  have b13 : (i : Int) ≤ (rs.length : Int) + 1 := by omega
  clear hW1 hvc1 hvc hw hd hcell hsp ho1 ho2 hlen hpi hxl h3 hl1 hcur h hv
  have HFIN := Lib.hid hfin; clear hfin
  generalize trips (rs.drop i) = vs1 at *
  generalize trips [r] = vs2 at *
  generalize rs.length = n at *
  go_enter Tryz.func59, Tryz.ntmps59
  go_wp2_with (simp only [hov])
  go_region_law (refine step_copy_runR rfl _ _ 24 24 rfl _ _ (by simp [Act.eval, Act.put]) (by simp [Act.eval, Act.put]) (hcp1 _ _ _) ?_)
  go_wp2_with (at_builtin; refine wpList_copy_runR _ rfl _ _ 24 24 rfl _ _ rfl rfl (hcp2 _ _) ?_)
  go_returns
  exact HFIN.out

end Go.Proofs.YtgdadbmhdljcdaaGreatDoor

/- slices.Insert at rings, where there is no room; and the three together. -/
namespace Go.Proofs.YtgdadbmhdljcdaaGreatDoor
set_option linter.unusedVariables false
open Go.RowKit Go.Proofs.Bell Go.BigFrame

theorem below_setCells {B g : Nat} : ∀ (vs : List Value) (o : Nat) (w w' : World), Below B w w' → B ≤ g → Below B w (w'.setCells g o vs)
  | [], _, _, _, h, _ => h
  | v :: r, o, w, w', h, hb => below_setCells r (o + 1) w _ (h.setCell hb v) hb
theorem zeros_len (z : Array Value) (n : Nat) : (Builtin.zeroCells z n).size = n * z.size := by simp [Builtin.zeroCells]
set_option maxRecDepth 100000 in
set_option maxHeartbeats 3200000 in
theorem InsertGrow_c (base g cap i vb : Nat) (rs : List (Int × Int × Int)) (r : Int × Int × Int) (w : World) (h : OwnR base w (.slice (some ⟨g, 0, none⟩) rs.length cap) rs) (hbase : base ≤ w.heap.size) (hv : w.heap[vb]? = some (ringO r)) (hne : vb ≠ g) (hi : i < rs.length) (hroom : cap < rs.length + 1) (hm : rs.length ≤ 1000) :
    Calls Tryz.prog 59 #[.slice (some ⟨g, 0, none⟩) rs.length cap, .int .i64 i, .slice (some ⟨vb, 0, none⟩) 1 1] w (RetIns base g (rs.take i ++ r :: rs.drop i) w) := by
  have hvc := ring_cells hv
  have hnc := rd_cap (Rd.of_own h)
  have hgl := own_lt h g rfl
  have hvl : vb < w.heap.size := by
    rcases Nat.lt_or_ge vb w.heap.size with h' | h'
    · exact h'
    · rw [Array.getElem?_eq_none h'] at hv; cases hv
  obtain ⟨i0, hi0, hz0, hz1, hz2⟩ := info_parts info_Ring
  have h3 := trips_len rs
  have ht := trips_take rs i
  have htl : (trips (rs.take i)).length = i * 3 := by rw [trips_len, List.length_take, Nat.min_eq_left (Nat.le_of_lt hi)]
  have hold : (Builtin.firstCells i0.size i (.slice (some ⟨g, 0, none⟩) i cap)).run Tryz.prog w.drew = .ok (trips (rs.take i)).toArray w.drew := by
    rw [hz1]
    exact run_firstCells_some w.drew 3 i ⟨g, 0, none⟩ i cap (trips (rs.take i)) htl (fun j v hj => by
      have h1 := (List.getElem?_eq_some_iff.1 hj).1
      rw [add_norm _ rfl, Nat.zero_add]
      show w.cell? _ = _
      rw [World.ownsRow.cellAt h _ (by omega)]
      rw [← ht, List.getElem?_take, if_pos (by omega)] at hj
      exact hj)
  have hik : i + (rs.length + 1 - i) = rs.length + 1 := by omega
  have hkk : (rs.length : Int) + 1 - (i : Int) = ((rs.length + 1 - i : Nat) : Int) := by omega
  obtain ⟨G, hG⟩ : ∃ G, G = grownCap w (rs.length + 1) cap 37 := ⟨_, rfl⟩
  obtain ⟨ROW, hROW⟩ : ∃ ROW : Array Value, ROW = (trips (rs.take i)).toArray ++ Builtin.zeroCells (Value.agg #[.int .i64 0, .int .i64 0, .int .i64 0]).cells (rs.length + 1 - i) ++ Builtin.zeroCells (Value.agg #[.int .i64 0, .int .i64 0, .int .i64 0]).cells (G - (rs.length + 1)) := ⟨_, rfl⟩
  have hrz : ∀ ty, (Builtin.append_ #[24, 3] ty #[.slice (some ⟨g, 0, none⟩) i cap, .int .i64 ((rs.length : Int) + 1 - (i : Int))]).run Tryz.prog w =
      .ok (.slice (some ⟨w.heap.size, 0, none⟩) (rs.length + 1) G) (w.drew.alloc (.cells ROW 37)) := fun ty => by
    have q := Lib.run_append_grow_zeros w 24 3 ty 37 i0 _ .i64 .i64 Tryz.underlying24 Tryz.underlying3 hi0 hz0 (some ⟨g, 0, none⟩) i cap (trips (rs.take i)) hold (rs.length + 1 - i) (by omega) (by omega) (by omega) (by omega) (by rw [hz2]; omega) (by rw [hz2, hik]; exact growslice_fits hroom (by omega))
    rw [hik] at q
    rw [hkk, hROW, hG]
    exact q
  have hGn : rs.length + 1 ≤ G := by rw [hG]; exact grownCap_ge w _ _ _
  have hGm : G ≤ maxLen := by rw [hG]; exact grownCap_le_maxLen w (rs.length + 1) cap 37 (by unfold maxLen; omega)
  have hG63 : G ≤ 9223372036854775807 := by unfold maxLen at hGm; omega
  have hRs : ROW.size = G * 3 := by
    rw [hROW]
    simp only [Array.size_append, zeros_len, List.size_toArray, htl, Value.cells]
    simp
    omega
  have hRt : ROW.toList.take (i * 3) = trips (rs.take i) := by
    rw [hROW]
    simp only [Array.toList_append, List.append_assoc]
    rw [List.take_append_of_le_length (by simp [htl]), List.take_of_length_le (by simp [htl])]
  have hown : (w.drew.alloc (.cells ROW 37)).ownsRow base 37 3 (.slice (some ⟨w.heap.size, 0, none⟩) (rs.length + 1) G) (rs.length + 1) (ROW.toList.take ((rs.length + 1) * 3)) := own_of_row (w := w.drew) hbase hGm hRs hGn
  have hpi := put_in (Nat.le_of_lt hi) r hown.1 (by rw [List.take_take, Nat.min_eq_left (by omega)]; exact hRt)
  have ho1 := own_setCells (trips [r]) (i * 3) _ _ hown
  have hown2 : (w.alloc (.cells ROW 37)).drew.drew.ownsRow base 37 3 (.slice (some ⟨w.heap.size, 0, none⟩) (rs.length + 1) G) (rs.length + 1) (ROW.toList.take ((rs.length + 1) * 3)) := hown
  have ho2 := own_setCells (trips (rs.drop i)) ((i + 1) * 3) _ _ (own_setCells (trips [r]) (i * 3) _ _ hown2)
  rw [hpi.1] at ho2
  have hlen : (rs.take i ++ r :: rs.drop i).length = rs.length + 1 := by rw [List.length_append, List.length_cons, List.length_take, List.length_drop]; omega
  have hfin : RetIns base g (rs.take i ++ r :: rs.drop i) w (.returned (.slice (some ⟨w.heap.size, 0, none⟩) (rs.length + 1) G)) (((((w.alloc (.cells ROW 37)).drew.setCells w.heap.size (i * 3) (trips [r])).drew).setCells w.heap.size ((i + 1) * 3) (trips (rs.drop i)))) := by
    rw [drew_setCells']
    exact ⟨_, rfl, by unfold OwnR; rw [hlen]; exact ho2, Only.of_below (below_setCells _ _ _ _ (below_setCells _ _ _ _ (by go_grown) (Nat.le_refl _)) (Nat.le_refl _))⟩
  obtain ⟨W1, hW1⟩ : ∃ W1, W1 = w.drew.alloc (.cells ROW 37) := ⟨_, rfl⟩
  have hN : ∀ j, j < (rs.length + 1) * 3 → (W1.cell? ⟨w.heap.size, j, none⟩).isSome = true := fun j hj => by
    rw [hW1]
    have := World.ownsRow.cellAt hown j hj
    rw [this, List.getElem?_eq_getElem (by rw [hown.1]; exact hj)]; rfl
  have hNf : ∀ j, W1.frozen? ⟨w.heap.size, j, none⟩ = false := fun j => by rw [hW1]; exact World.ownsRow.frozenAt hown j
  have hOg : ∀ j v, w.cell? ⟨g, j, none⟩ = some v → W1.cell? ⟨g, j, none⟩ = some v := fun j v e => by rw [hW1]; exact alloc_cell (w := w.drew) _ e
  have hOv : ∀ j v, w.cell? ((⟨vb, 0, none⟩ : Addr).add j) = some v → W1.cell? ((⟨vb, 0, none⟩ : Addr).add j) = some v := fun j v e => by rw [hW1]; exact alloc_cell (w := w.drew) _ e
  have hl1 : (trips (rs.drop i)).length = (rs.length - i) * 3 := by rw [trips_len, List.length_drop]
  have hcpA : ∀ (W : World), (∀ x, W.cell? x = W1.cell? x) → (∀ x, W.frozen? x = W1.frozen? x) → ∀ ty dc, (Builtin.copy_ #[24, 24] ty #[.slice (some ⟨w.heap.size, i * 3, none⟩) (rs.length + 1 - i) dc, .slice (some ⟨vb, 0, none⟩) 1 1]).run Tryz.prog W = .ok (goInt ((1 : Nat) : Int)) (W.setCells w.heap.size (i * 3) (trips [r])) := fun W hWc hWf ty dc =>
    run_copy_R W ty w.heap.size (i * 3) 1 (rs.length + 1 - i) dc ⟨vb, 0, none⟩ 1 1 _ (by simp only [Nat.min_def]; split <;> omega) (by simp [trips])
      (fun j v hj => by rw [hWc]; exact hOv _ v (hvc j v hj))
      (fun j hj => by
        have hj3 : j < 3 := by simpa [trips] using hj
        rw [hWc]; exact hN _ (by omega)) (fun j hj => by rw [hWf]; exact hNf _) trips_one
  have hcpB : ∀ (W : World), (∀ x, W.cell? x = (W1.setCells w.heap.size (i * 3) (trips [r])).cell? x) → (∀ x, W.frozen? x = (W1.setCells w.heap.size (i * 3) (trips [r])).frozen? x) → ∀ ty dc sc, (Builtin.copy_ #[24, 24] ty #[.slice (some ⟨w.heap.size, (i + 1) * 3, none⟩) (rs.length - i) dc, .slice (some ⟨g, i * 3, none⟩) (rs.length - i) sc]).run Tryz.prog W = .ok (goInt ((rs.length - i : Nat) : Int)) (W.setCells w.heap.size ((i + 1) * 3) (trips (rs.drop i))) := fun W hWc hWf ty dc sc =>
    run_copy_R W ty w.heap.size ((i + 1) * 3) (rs.length - i) (rs.length - i) dc ⟨g, i * 3, none⟩ (rs.length - i) sc _ (by simp only [Nat.min_def]; split <;> omega) hl1
      (fun j v hj => by
        have h1 := (List.getElem?_eq_some_iff.1 hj).1
        rw [add_norm _ rfl, hWc, World.cell?_setCells_out _ _ _ _ _ (fun e _ => by simp only at e; omega)]
        refine hOg _ _ ?_
        show w.cell? ⟨g, i * 3 + j, none⟩ = _
        rw [World.ownsRow.cellAt h _ (by omega)]
        rw [← trips_drop, List.getElem?_drop] at hj
        exact hj)
      (fun j hj => by
        rw [hWc, hW1, World.ownsRow.cellAt ho1 _ (by omega), List.getElem?_eq_getElem (by rw [layL_len, hown.1]; omega)]; rfl)
      (fun j hj => by rw [hWf, hW1]; exact World.ownsRow.frozenAt ho1 _) trips_one
  have hE1 : ∀ x, ((w.alloc (.cells ROW 37)).drew).cell? x = (w.drew.alloc (.cells ROW 37)).cell? x := fun x => rfl
  have hE2 : ∀ x, ((w.alloc (.cells ROW 37)).drew).frozen? x = (w.drew.alloc (.cells ROW 37)).frozen? x := fun x => rfl
  have hF1 : ∀ x, (((w.alloc (.cells ROW 37)).drew.setCells w.heap.size (i * 3) (trips [r])).drew).cell? x = ((w.drew.alloc (.cells ROW 37)).setCells w.heap.size (i * 3) (trips [r])).cell? x := fun x => rfl
  have hF2 : ∀ x, (((w.alloc (.cells ROW 37)).drew.setCells w.heap.size (i * 3) (trips [r])).drew).frozen? x = ((w.drew.alloc (.cells ROW 37)).setCells w.heap.size (i * 3) (trips [r])).frozen? x := fun x => rfl
  subst hW1
  have hw1 : IntKind.i64.wrap ((i : Int) + 1) = (i : Int) + 1 := IntWalk.i64_in _ (by omega)
  have hw2 : IntKind.i64.wrap ((rs.length : Int) + 1) = (rs.length : Int) + 1 := IntWalk.i64_in _ (by omega)
  have hw3 : IntKind.i64.wrap ((rs.length : Int) + 1 - (i : Int)) = (rs.length : Int) + 1 - (i : Int) := IntWalk.i64_in _ (by omega)
  have b1 : (0 : Int) ≤ (i : Int) + 1 := by omega
  have b2 : (i : Int) + 1 ≤ (rs.length : Int) + 1 := by omega
  have b3 : ((i : Int) + 1).toNat = i + 1 := by omega
  have b7 : ¬ (cap = i) := by omega
  have b8 : ¬ (G = i + 1) := by omega
  have b81 : ¬ (G = i) := by omega
  have b9 : i ≤ rs.length := by omega
  have b10 : i ≤ rs.length + 1 := by omega
  have b11 : decide ((cap : Int) < (rs.length : Int) + 1) = true := decide_eq_true (by omega)
  have b12 : ¬ ((i : Int) = (rs.length : Int)) := by omega
  have b13 : (i : Int) ≤ (rs.length : Int) + 1 := by omega
  have b14 : i ≤ cap := by omega
  have HFIN := Lib.hid hfin; clear hfin
  clear hkk hik hold hROW hG hRs hRt hown hown2 hpi ho1 ho2 hlen hN hNf hOg hOv hl1 h3 ht htl hvc h hv hz0 hz1 hz2 hi0
  generalize trips (rs.drop i) = vs1 at *
  generalize trips [r] = vs2 at *
  generalize rs.length = n at *
  go_enter Tryz.func59, Tryz.ntmps59
  go_wp2_with (first
    | (at_builtin; refine Lib.wpList_append_run _ rfl _ _ _ _ rfl _ _ rfl rfl _ _ (hrz _) ?_)
    | (at_builtin; refine wpList_copy_runR _ rfl _ _ 24 24 rfl _ _ rfl rfl (hcpA _ hE1 hE2 _ _) ?_))
  go_region_law (refine step_copy_runR rfl _ _ 24 24 rfl (.slice (some ⟨w.heap.size, (i + 1) * 3, none⟩) (n - i) (G - (i + 1))) (.slice (some ⟨g, i * 3, none⟩) (n - i) (cap - i)) (by simp [Act.eval, Act.put]) (by simp [Act.eval, Act.put]) (hcpB _ hF1 hF2 _ (G - (i + 1)) (cap - i)) ?_)
  go_wp2
  go_returns
  exact HFIN.out

theorem InsertR_c (base g cap i vb : Nat) (rs : List (Int × Int × Int)) (r : Int × Int × Int) (w : World) (h : OwnR base w (.slice (some ⟨g, 0, none⟩) rs.length cap) rs) (hbase : base ≤ w.heap.size) (hv : w.heap[vb]? = some (ringO r)) (hne : vb ≠ g) (hi : i ≤ rs.length) (hm : rs.length ≤ 1000) :
    Calls Tryz.prog 59 #[.slice (some ⟨g, 0, none⟩) rs.length cap, .int .i64 i, .slice (some ⟨vb, 0, none⟩) 1 1] w (RetIns base g (rs.take i ++ r :: rs.drop i) w) := by
  rcases Nat.lt_or_ge i rs.length with h1 | h1
  · rcases Nat.lt_or_ge cap (rs.length + 1) with h2 | h2
    · exact InsertGrow_c base g cap i vb rs r w h hbase hv hne h1 h2 hm
    · exact InsertRoom_c base g cap i vb rs r w h hv hne h1 h2 hm
  · obtain rfl : i = rs.length := by omega
    rw [List.take_length, List.drop_length]
    exact InsertEnd_c base g cap vb rs r w h hbase hv hm

end Go.Proofs.YtgdadbmhdljcdaaGreatDoor

/- A ring is inserted: the program's side. -/
namespace Go.Proofs.YtgdadbmhdljcdaaGreatDoor
set_option linter.unusedVariables false
open Go.RowKit Go.Proofs.Bell Go.BigFrame

def insL (ps : List (Int × Int × Int)) (k : Int) (r : Int × Int × Int) : List (Int × Int × Int) := ps.take k.toNat ++ r :: ps.drop k.toNat
def insI (nm : ByteArray) (ps : List (Int × Int × Int)) (k a b c : Int) : ByteArray × List (Int × Int × Int) × Int :=
  if profB nm ps && ringB a b c then (if inB k 0 (ps.length : Int) then (if ps.length = 32 then (⟨#[]⟩, [], 5) else doneR nm (insL ps k (a, b, c))) else (⟨#[]⟩, [], 2)) else (⟨#[]⟩, [], 1)
theorem insI_len (nm : ByteArray) (ps : List (Int × Int × Int)) (k a b c : Int) : (insI nm ps k a b c).2.1.length ≤ 32 := by
  unfold insI
  split
  · split
    · split
      · simp
      · exact doneR_len _ _
    · simp
  · simp

theorem two_keep {w : World} {b o R : Nat} {v x0 x1 : Value} (h : w.cell? ⟨b, o, none⟩ = some v) (hne : b ≠ R) : ((w.setCell ⟨R, 0, none⟩ x0).setCell ⟨R, 1, none⟩ x1).cell? ⟨b, o, none⟩ = some v := by
  have hn : ∀ j, (⟨R, j, none⟩ : Addr) ≠ ⟨b, o, none⟩ := fun j e => hne (by injection e with e1; exact e1.symm)
  rw [World.cell?_setCell_other _ _ _ _ (by first | exact hn 1 | exact (hn 1).symm), World.cell?_setCell_other _ _ _ _ (by first | exact hn 0 | exact (hn 0).symm)]; exact h
set_option maxRecDepth 100000 in
set_option maxHeartbeats 3200000 in
theorem implInsertRing_c (nm : ByteArray) (sv : Value) (ps : List (Int × Int × Int)) (k a b c : Int) (w : World) (hnm : nm.size ≤ maxLen) (hr : Rd w sv ps.length (trips ps)) :
    Calls Tryz.prog 18 #[.agg #[.string nm, sv], .int .i64 k, .agg #[.int .i64 a, .int .i64 b, .int .i64 c]] w (RetP2 (insI nm ps k a b c).1 (insI nm ps k a b c).2.1 (.int .i64 (insI nm ps k a b c).2.2) w) := by
  have hok := fun w' (hb : Below w.heap.size w w') => ValidProfile_c nm sv ps w' hnm (hr.later hb)
  have hvr := fun w' => ValidRing_c a b c w'
  cases t0 : profB nm ps <;> rw [t0] at hok
  · have he : insI nm ps k a b c = (⟨#[]⟩, [], 1) := by simp [insI, t0]
    rw [he]
    have HOK := Lib.hid hok; clear hok
    clear he hr
    go_enter Tryz.func18, Tryz.ntmps18
    have b0 : Below w.heap.size w w := Below.refl _ _
    have z0 : w.heap.size ≤ w.heap.size := Nat.le_refl _
    go_wp2_with fail
    refine (HOK.out _ (by go_grown)).mono ?_
    rintro _ w1 ⟨rfl, r1⟩
    have s1 : Below w.heap.size w w1 := Below.trans (by go_grown) (r1.mono (by simp; try omega))
    have b1 := b0.trans (s1.mono z0)
    have z1 := b1.size
    have y1 := s1.size
    have v1 : w.heap.size + 3 ≤ w1.heap.size := by have := r1.size; simp only [World.size_alloc] at this; omega
    have c0_0_1 := below_cell r1 (p := ⟨w.heap.size, 0, none⟩) (v := .string nm) (by simp [go_sem])
    have c0_1_1 := below_cell r1 (p := ⟨w.heap.size, 1, none⟩) (v := sv) (by simp [go_sem])
    have c1_0_1 := below_cell r1 (p := ⟨w.heap.size + 1, 0, none⟩) (v := .int .i64 a) (by simp [go_sem])
    have c1_1_1 := below_cell r1 (p := ⟨w.heap.size + 1, 1, none⟩) (v := .int .i64 b) (by simp [go_sem])
    have c1_2_1 := below_cell r1 (p := ⟨w.heap.size + 1, 2, none⟩) (v := .int .i64 c) (by simp [go_sem])
    have c2_0_1 := below_cell r1 (p := ⟨w.heap.size + 1 + 1, 0, none⟩) (v := .string ⟨#[]⟩) (by simp [go_sem])
    have c2_1_1 := below_cell r1 (p := ⟨w.heap.size + 1 + 1, 1, none⟩) (v := .slice none 0 0) (by simp [go_sem])
    have f0_1 : ∀ j, w1.frozen? ⟨w.heap.size, j, none⟩ = false := fun j => (r1.frozen (p := ⟨w.heap.size, j, none⟩) (by simp [go_sem])).trans (by simp [go_sem])
    have f1_1 : ∀ j, w1.frozen? ⟨w.heap.size + 1, j, none⟩ = false := fun j => (r1.frozen (p := ⟨w.heap.size + 1, j, none⟩) (by simp [go_sem])).trans (by simp [go_sem])
    have f2_1 : ∀ j, w1.frozen? ⟨w.heap.size + 1 + 1, j, none⟩ = false := fun j => (r1.frozen (p := ⟨w.heap.size + 1 + 1, j, none⟩) (by simp [go_sem])).trans (by simp [go_sem])
    clear r1
    go_wp2
    refine bodyPost_ret (v := .tuple #[.agg #[.string ⟨#[]⟩, .slice none 0 0], .int .i64 1]) (by simp [results, Tryz.results18, go_sem, c2_0_1, c2_1_1]) rfl ?_
    exact RetP2.nil (Below.setCell (Below.setCell b1 (show w.heap.size ≤ w.heap.size + 1 + 1 by omega) _) (show w.heap.size ≤ w.heap.size + 1 + 1 by omega) _)
  · have HOK := Lib.hid hok; clear hok
    obtain ⟨hl1, hl2, hal, hht⟩ := profB_t t0
    cases tr : ringB a b c <;> rw [tr] at hvr
    · have he : insI nm ps k a b c = (⟨#[]⟩, [], 1) := by simp [insI, t0, tr]
      rw [he]
      have HVR := Lib.hid hvr; clear hvr
      clear he hr
      go_enter Tryz.func18, Tryz.ntmps18
      have b0 : Below w.heap.size w w := Below.refl _ _
      have z0 : w.heap.size ≤ w.heap.size := Nat.le_refl _
      go_wp2_with fail
      refine (HOK.out _ (by go_grown)).mono ?_
      rintro _ w1 ⟨rfl, r1⟩
      have s1 : Below w.heap.size w w1 := Below.trans (by go_grown) (r1.mono (by simp; try omega))
      have b1 := b0.trans (s1.mono z0)
      have z1 := b1.size
      have y1 := s1.size
      have v1 : w.heap.size + 3 ≤ w1.heap.size := by have := r1.size; simp only [World.size_alloc] at this; omega
      have c0_0_1 := below_cell r1 (p := ⟨w.heap.size, 0, none⟩) (v := .string nm) (by simp [go_sem])
      have c0_1_1 := below_cell r1 (p := ⟨w.heap.size, 1, none⟩) (v := sv) (by simp [go_sem])
      have c1_0_1 := below_cell r1 (p := ⟨w.heap.size + 1, 0, none⟩) (v := .int .i64 a) (by simp [go_sem])
      have c1_1_1 := below_cell r1 (p := ⟨w.heap.size + 1, 1, none⟩) (v := .int .i64 b) (by simp [go_sem])
      have c1_2_1 := below_cell r1 (p := ⟨w.heap.size + 1, 2, none⟩) (v := .int .i64 c) (by simp [go_sem])
      have c2_0_1 := below_cell r1 (p := ⟨w.heap.size + 1 + 1, 0, none⟩) (v := .string ⟨#[]⟩) (by simp [go_sem])
      have c2_1_1 := below_cell r1 (p := ⟨w.heap.size + 1 + 1, 1, none⟩) (v := .slice none 0 0) (by simp [go_sem])
      have f0_1 : ∀ j, w1.frozen? ⟨w.heap.size, j, none⟩ = false := fun j => (r1.frozen (p := ⟨w.heap.size, j, none⟩) (by simp [go_sem])).trans (by simp [go_sem])
      have f1_1 : ∀ j, w1.frozen? ⟨w.heap.size + 1, j, none⟩ = false := fun j => (r1.frozen (p := ⟨w.heap.size + 1, j, none⟩) (by simp [go_sem])).trans (by simp [go_sem])
      have f2_1 : ∀ j, w1.frozen? ⟨w.heap.size + 1 + 1, j, none⟩ = false := fun j => (r1.frozen (p := ⟨w.heap.size + 1 + 1, j, none⟩) (by simp [go_sem])).trans (by simp [go_sem])
      clear r1
      go_wp2_with fail
      refine (HVR.out _).mono ?_
      rintro _ w2 ⟨rfl, r2⟩
      have s2 := r2
      have b2 := b1.trans (s2.mono z1)
      have z2 := b2.size
      have y2 := s2.size
      have k0_2 := c0_0_1
      have c0_0_2 := below_cell s2 c0_0_1; clear c0_0_1
      have c0_1_2 := below_cell s2 c0_1_1; clear c0_1_1
      have k1_2 := c1_0_1
      have c1_0_2 := below_cell s2 c1_0_1; clear c1_0_1
      have c1_1_2 := below_cell s2 c1_1_1; clear c1_1_1
      have c1_2_2 := below_cell s2 c1_2_1; clear c1_2_1
      have k2_2 := c2_0_1
      have c2_0_2 := below_cell s2 c2_0_1; clear c2_0_1
      have c2_1_2 := below_cell s2 c2_1_1; clear c2_1_1
      have f0_2 : ∀ j, w2.frozen? ⟨w.heap.size, j, none⟩ = false := fun j => (s2.frozen (p := ⟨w.heap.size, j, none⟩) (show w.heap.size < _ from World.block_lt_of_cell? _ ⟨w.heap.size, 0, none⟩ k0_2)).trans (f0_1 j); clear f0_1
      have f1_2 : ∀ j, w2.frozen? ⟨w.heap.size + 1, j, none⟩ = false := fun j => (s2.frozen (p := ⟨w.heap.size + 1, j, none⟩) (show w.heap.size + 1 < _ from World.block_lt_of_cell? _ ⟨w.heap.size + 1, 0, none⟩ k1_2)).trans (f1_1 j); clear f1_1
      have f2_2 : ∀ j, w2.frozen? ⟨w.heap.size + 1 + 1, j, none⟩ = false := fun j => (s2.frozen (p := ⟨w.heap.size + 1 + 1, j, none⟩) (show w.heap.size + 1 + 1 < _ from World.block_lt_of_cell? _ ⟨w.heap.size + 1 + 1, 0, none⟩ k2_2)).trans (f2_1 j); clear f2_1
      clear r2
      go_wp2
      refine bodyPost_ret (v := .tuple #[.agg #[.string ⟨#[]⟩, .slice none 0 0], .int .i64 1]) (by simp [results, Tryz.results18, go_sem, c2_0_2, c2_1_2]) rfl ?_
      exact RetP2.nil (Below.setCell (Below.setCell b2 (show w.heap.size ≤ w.heap.size + 1 + 1 by omega) _) (show w.heap.size ≤ w.heap.size + 1 + 1 by omega) _)
    · have HVR := Lib.hid hvr; clear hvr
      have hin := fun w' => within_c k 0 (ps.length : Int) w'
      have hsz := fun w' (hb : Below w.heap.size w w') => sizeR_c sv ps.length (trips ps) w' (hr.later hb)
      cases t1 : inB k 0 (ps.length : Int) <;> rw [t1] at hin
      · have he : insI nm ps k a b c = (⟨#[]⟩, [], 2) := by simp [insI, t0, tr, t1]
        rw [he]
        have HIN := Lib.hid hin; clear hin
        have HSZ := Lib.hid hsz; clear hsz
        clear he hr
        go_enter Tryz.func18, Tryz.ntmps18
        have b0 : Below w.heap.size w w := Below.refl _ _
        have z0 : w.heap.size ≤ w.heap.size := Nat.le_refl _
        go_wp2_with fail
        refine (HOK.out _ (by go_grown)).mono ?_
        rintro _ w1 ⟨rfl, r1⟩
        have s1 : Below w.heap.size w w1 := Below.trans (by go_grown) (r1.mono (by simp; try omega))
        have b1 := b0.trans (s1.mono z0)
        have z1 := b1.size
        have y1 := s1.size
        have v1 : w.heap.size + 3 ≤ w1.heap.size := by have := r1.size; simp only [World.size_alloc] at this; omega
        have c0_0_1 := below_cell r1 (p := ⟨w.heap.size, 0, none⟩) (v := .string nm) (by simp [go_sem])
        have c0_1_1 := below_cell r1 (p := ⟨w.heap.size, 1, none⟩) (v := sv) (by simp [go_sem])
        have c1_0_1 := below_cell r1 (p := ⟨w.heap.size + 1, 0, none⟩) (v := .int .i64 a) (by simp [go_sem])
        have c1_1_1 := below_cell r1 (p := ⟨w.heap.size + 1, 1, none⟩) (v := .int .i64 b) (by simp [go_sem])
        have c1_2_1 := below_cell r1 (p := ⟨w.heap.size + 1, 2, none⟩) (v := .int .i64 c) (by simp [go_sem])
        have c2_0_1 := below_cell r1 (p := ⟨w.heap.size + 1 + 1, 0, none⟩) (v := .string ⟨#[]⟩) (by simp [go_sem])
        have c2_1_1 := below_cell r1 (p := ⟨w.heap.size + 1 + 1, 1, none⟩) (v := .slice none 0 0) (by simp [go_sem])
        have f0_1 : ∀ j, w1.frozen? ⟨w.heap.size, j, none⟩ = false := fun j => (r1.frozen (p := ⟨w.heap.size, j, none⟩) (by simp [go_sem])).trans (by simp [go_sem])
        have f1_1 : ∀ j, w1.frozen? ⟨w.heap.size + 1, j, none⟩ = false := fun j => (r1.frozen (p := ⟨w.heap.size + 1, j, none⟩) (by simp [go_sem])).trans (by simp [go_sem])
        have f2_1 : ∀ j, w1.frozen? ⟨w.heap.size + 1 + 1, j, none⟩ = false := fun j => (r1.frozen (p := ⟨w.heap.size + 1 + 1, j, none⟩) (by simp [go_sem])).trans (by simp [go_sem])
        clear r1
        go_wp2_with fail
        refine (HVR.out _).mono ?_
        rintro _ w2 ⟨rfl, r2⟩
        have s2 := r2
        have b2 := b1.trans (s2.mono z1)
        have z2 := b2.size
        have y2 := s2.size
        have k0_2 := c0_0_1
        have c0_0_2 := below_cell s2 c0_0_1; clear c0_0_1
        have c0_1_2 := below_cell s2 c0_1_1; clear c0_1_1
        have k1_2 := c1_0_1
        have c1_0_2 := below_cell s2 c1_0_1; clear c1_0_1
        have c1_1_2 := below_cell s2 c1_1_1; clear c1_1_1
        have c1_2_2 := below_cell s2 c1_2_1; clear c1_2_1
        have k2_2 := c2_0_1
        have c2_0_2 := below_cell s2 c2_0_1; clear c2_0_1
        have c2_1_2 := below_cell s2 c2_1_1; clear c2_1_1
        have f0_2 : ∀ j, w2.frozen? ⟨w.heap.size, j, none⟩ = false := fun j => (s2.frozen (p := ⟨w.heap.size, j, none⟩) (show w.heap.size < _ from World.block_lt_of_cell? _ ⟨w.heap.size, 0, none⟩ k0_2)).trans (f0_1 j); clear f0_1
        have f1_2 : ∀ j, w2.frozen? ⟨w.heap.size + 1, j, none⟩ = false := fun j => (s2.frozen (p := ⟨w.heap.size + 1, j, none⟩) (show w.heap.size + 1 < _ from World.block_lt_of_cell? _ ⟨w.heap.size + 1, 0, none⟩ k1_2)).trans (f1_1 j); clear f1_1
        have f2_2 : ∀ j, w2.frozen? ⟨w.heap.size + 1 + 1, j, none⟩ = false := fun j => (s2.frozen (p := ⟨w.heap.size + 1 + 1, j, none⟩) (show w.heap.size + 1 + 1 < _ from World.block_lt_of_cell? _ ⟨w.heap.size + 1 + 1, 0, none⟩ k2_2)).trans (f2_1 j); clear f2_1
        clear r2
        go_wp2_with fail
        refine (HSZ.out _ b2).mono ?_
        rintro _ _ ⟨rfl, rfl⟩
        go_wp2_with fail
        refine (HIN.out _).mono ?_
        rintro _ _ ⟨rfl, rfl⟩
        go_wp2
        refine bodyPost_ret (v := .tuple #[.agg #[.string ⟨#[]⟩, .slice none 0 0], .int .i64 2]) (by simp [results, Tryz.results18, go_sem, c2_0_2, c2_1_2]) rfl ?_
        exact RetP2.nil (Below.setCell (Below.setCell b2 (show w.heap.size ≤ w.heap.size + 1 + 1 by omega) _) (show w.heap.size ≤ w.heap.size + 1 + 1 by omega) _)
      · have HIN := Lib.hid hin; clear hin
        have HSZ := Lib.hid hsz; clear hsz
        by_cases t2 : ps.length = 32
        · have he : insI nm ps k a b c = (⟨#[]⟩, [], 5) := by unfold insI; rw [if_pos (by simp [t0, tr]), if_pos t1, if_pos t2]
          rw [he]
          have t3 : decide ((32 : Int) ≤ (ps.length : Int)) = true := decide_eq_true (by omega)
          obtain ⟨_, ao, cap, _, _, rfl, _, _⟩ := hr.open
          clear he hr t2
          go_enter Tryz.func18, Tryz.ntmps18
          have b0 : Below w.heap.size w w := Below.refl _ _
          have z0 : w.heap.size ≤ w.heap.size := Nat.le_refl _
          go_wp2_with fail
          refine (HOK.out _ (by go_grown)).mono ?_
          rintro _ w1 ⟨rfl, r1⟩
          have s1 : Below w.heap.size w w1 := Below.trans (by go_grown) (r1.mono (by simp; try omega))
          have b1 := b0.trans (s1.mono z0)
          have z1 := b1.size
          have y1 := s1.size
          have v1 : w.heap.size + 3 ≤ w1.heap.size := by have := r1.size; simp only [World.size_alloc] at this; omega
          have c0_0_1 := below_cell r1 (p := ⟨w.heap.size, 0, none⟩) (v := .string nm) (by simp [go_sem])
          have c0_1_1 := below_cell r1 (p := ⟨w.heap.size, 1, none⟩) (v := .slice ao ps.length cap) (by simp [go_sem])
          have c1_0_1 := below_cell r1 (p := ⟨w.heap.size + 1, 0, none⟩) (v := .int .i64 a) (by simp [go_sem])
          have c1_1_1 := below_cell r1 (p := ⟨w.heap.size + 1, 1, none⟩) (v := .int .i64 b) (by simp [go_sem])
          have c1_2_1 := below_cell r1 (p := ⟨w.heap.size + 1, 2, none⟩) (v := .int .i64 c) (by simp [go_sem])
          have c2_0_1 := below_cell r1 (p := ⟨w.heap.size + 1 + 1, 0, none⟩) (v := .string ⟨#[]⟩) (by simp [go_sem])
          have c2_1_1 := below_cell r1 (p := ⟨w.heap.size + 1 + 1, 1, none⟩) (v := .slice none 0 0) (by simp [go_sem])
          have f0_1 : ∀ j, w1.frozen? ⟨w.heap.size, j, none⟩ = false := fun j => (r1.frozen (p := ⟨w.heap.size, j, none⟩) (by simp [go_sem])).trans (by simp [go_sem])
          have f1_1 : ∀ j, w1.frozen? ⟨w.heap.size + 1, j, none⟩ = false := fun j => (r1.frozen (p := ⟨w.heap.size + 1, j, none⟩) (by simp [go_sem])).trans (by simp [go_sem])
          have f2_1 : ∀ j, w1.frozen? ⟨w.heap.size + 1 + 1, j, none⟩ = false := fun j => (r1.frozen (p := ⟨w.heap.size + 1 + 1, j, none⟩) (by simp [go_sem])).trans (by simp [go_sem])
          clear r1
          go_wp2_with fail
          refine (HVR.out _).mono ?_
          rintro _ w2 ⟨rfl, r2⟩
          have s2 := r2
          have b2 := b1.trans (s2.mono z1)
          have z2 := b2.size
          have y2 := s2.size
          have k0_2 := c0_0_1
          have c0_0_2 := below_cell s2 c0_0_1; clear c0_0_1
          have c0_1_2 := below_cell s2 c0_1_1; clear c0_1_1
          have k1_2 := c1_0_1
          have c1_0_2 := below_cell s2 c1_0_1; clear c1_0_1
          have c1_1_2 := below_cell s2 c1_1_1; clear c1_1_1
          have c1_2_2 := below_cell s2 c1_2_1; clear c1_2_1
          have k2_2 := c2_0_1
          have c2_0_2 := below_cell s2 c2_0_1; clear c2_0_1
          have c2_1_2 := below_cell s2 c2_1_1; clear c2_1_1
          have f0_2 : ∀ j, w2.frozen? ⟨w.heap.size, j, none⟩ = false := fun j => (s2.frozen (p := ⟨w.heap.size, j, none⟩) (show w.heap.size < _ from World.block_lt_of_cell? _ ⟨w.heap.size, 0, none⟩ k0_2)).trans (f0_1 j); clear f0_1
          have f1_2 : ∀ j, w2.frozen? ⟨w.heap.size + 1, j, none⟩ = false := fun j => (s2.frozen (p := ⟨w.heap.size + 1, j, none⟩) (show w.heap.size + 1 < _ from World.block_lt_of_cell? _ ⟨w.heap.size + 1, 0, none⟩ k1_2)).trans (f1_1 j); clear f1_1
          have f2_2 : ∀ j, w2.frozen? ⟨w.heap.size + 1 + 1, j, none⟩ = false := fun j => (s2.frozen (p := ⟨w.heap.size + 1 + 1, j, none⟩) (show w.heap.size + 1 + 1 < _ from World.block_lt_of_cell? _ ⟨w.heap.size + 1 + 1, 0, none⟩ k2_2)).trans (f2_1 j); clear f2_1
          clear r2
          go_wp2_with fail
          refine (HSZ.out _ b2).mono ?_
          rintro _ _ ⟨rfl, rfl⟩
          go_wp2_with fail
          refine (HIN.out _).mono ?_
          rintro _ _ ⟨rfl, rfl⟩
          go_wp2
          refine bodyPost_ret (v := .tuple #[.agg #[.string ⟨#[]⟩, .slice none 0 0], .int .i64 5]) (by simp [results, Tryz.results18, go_sem, c2_0_2, c2_1_2]) rfl ?_
          exact RetP2.nil (Below.setCell (Below.setCell b2 (show w.heap.size ≤ w.heap.size + 1 + 1 by omega) _) (show w.heap.size ≤ w.heap.size + 1 + 1 by omega) _)
        · have he : insI nm ps k a b c = doneR nm (insL ps k (a, b, c)) := by simp [insI, t0, tr, t1, t2]
          rw [he]
          have t3 : decide ((32 : Int) ≤ (ps.length : Int)) = false := decide_eq_false (by omega)
          have hk2 : 0 ≤ k ∧ k ≤ (ps.length : Int) := by simpa [inB] using t1
          obtain ⟨i, rfl⟩ : ∃ i : Nat, k = (i : Int) := ⟨k.toNat, by omega⟩
          have hi : i ≤ ps.length := by omega
          have hcl := fun w' (hb : Below w.heap.size w w') => CloneR_c sv ps w' (hr.later hb) hl1 (by omega)
          have hins := fun base g cap vb w' (ho : OwnR base w' (.slice (some ⟨g, 0, none⟩) ps.length cap) ps) hb hv hne => InsertR_c base g cap i vb ps (a, b, c) w' ho hb hv hne hi (by omega)
          have hdone := fun base w' v (ho : OwnR base w' v (insL ps i (a, b, c))) => orState_c base nm v _ w' hnm ho
          have hrl : ps.take i ++ (a, b, c) :: ps.drop i = insL ps i (a, b, c) := rfl
          rw [hrl] at hins
          have hll : (insL ps i (a, b, c)).length = ps.length + 1 := by simp [insL]; omega
          have HLL := Lib.hid hll; clear hll
          generalize doneR nm (insL ps i (a, b, c)) = RES at *
          generalize insL ps i (a, b, c) = qs at *
          have HCL := Lib.hid hcl; clear hcl
          have HINS := Lib.hid hins; clear hins
          have HDONE := Lib.hid hdone; clear hdone
          have HL1 := Lib.hid hl1; clear hl1
          obtain ⟨_, ao, cap, _, _, rfl, _, _⟩ := hr.open
          clear he hr hal hrl t2
          go_enter Tryz.func18, Tryz.ntmps18
          have b0 : Below w.heap.size w w := Below.refl _ _
          have z0 : w.heap.size ≤ w.heap.size := Nat.le_refl _
          go_wp2_with fail
          refine (HOK.out _ (by go_grown)).mono ?_
          rintro _ w1 ⟨rfl, r1⟩
          have s1 : Below w.heap.size w w1 := Below.trans (by go_grown) (r1.mono (by simp; try omega))
          have b1 := b0.trans (s1.mono z0)
          have z1 := b1.size
          have y1 := s1.size
          have v1 : w.heap.size + 3 ≤ w1.heap.size := by have := r1.size; simp only [World.size_alloc] at this; omega
          have c0_0_1 := below_cell r1 (p := ⟨w.heap.size, 0, none⟩) (v := .string nm) (by simp [go_sem])
          have c0_1_1 := below_cell r1 (p := ⟨w.heap.size, 1, none⟩) (v := .slice ao ps.length cap) (by simp [go_sem])
          have c1_0_1 := below_cell r1 (p := ⟨w.heap.size + 1, 0, none⟩) (v := .int .i64 a) (by simp [go_sem])
          have c1_1_1 := below_cell r1 (p := ⟨w.heap.size + 1, 1, none⟩) (v := .int .i64 b) (by simp [go_sem])
          have c1_2_1 := below_cell r1 (p := ⟨w.heap.size + 1, 2, none⟩) (v := .int .i64 c) (by simp [go_sem])
          have c2_0_1 := below_cell r1 (p := ⟨w.heap.size + 1 + 1, 0, none⟩) (v := .string ⟨#[]⟩) (by simp [go_sem])
          have c2_1_1 := below_cell r1 (p := ⟨w.heap.size + 1 + 1, 1, none⟩) (v := .slice none 0 0) (by simp [go_sem])
          have f0_1 : ∀ j, w1.frozen? ⟨w.heap.size, j, none⟩ = false := fun j => (r1.frozen (p := ⟨w.heap.size, j, none⟩) (by simp [go_sem])).trans (by simp [go_sem])
          have f1_1 : ∀ j, w1.frozen? ⟨w.heap.size + 1, j, none⟩ = false := fun j => (r1.frozen (p := ⟨w.heap.size + 1, j, none⟩) (by simp [go_sem])).trans (by simp [go_sem])
          have f2_1 : ∀ j, w1.frozen? ⟨w.heap.size + 1 + 1, j, none⟩ = false := fun j => (r1.frozen (p := ⟨w.heap.size + 1 + 1, j, none⟩) (by simp [go_sem])).trans (by simp [go_sem])
          clear r1
          go_wp2_with fail
          refine (HVR.out _).mono ?_
          rintro _ w2 ⟨rfl, r2⟩
          have s2 := r2
          have b2 := b1.trans (s2.mono z1)
          have z2 := b2.size
          have y2 := s2.size
          have k0_2 := c0_0_1
          have c0_0_2 := below_cell s2 c0_0_1; clear c0_0_1
          have c0_1_2 := below_cell s2 c0_1_1; clear c0_1_1
          have k1_2 := c1_0_1
          have c1_0_2 := below_cell s2 c1_0_1; clear c1_0_1
          have c1_1_2 := below_cell s2 c1_1_1; clear c1_1_1
          have c1_2_2 := below_cell s2 c1_2_1; clear c1_2_1
          have k2_2 := c2_0_1
          have c2_0_2 := below_cell s2 c2_0_1; clear c2_0_1
          have c2_1_2 := below_cell s2 c2_1_1; clear c2_1_1
          have f0_2 : ∀ j, w2.frozen? ⟨w.heap.size, j, none⟩ = false := fun j => (s2.frozen (p := ⟨w.heap.size, j, none⟩) (show w.heap.size < _ from World.block_lt_of_cell? _ ⟨w.heap.size, 0, none⟩ k0_2)).trans (f0_1 j); clear f0_1
          have f1_2 : ∀ j, w2.frozen? ⟨w.heap.size + 1, j, none⟩ = false := fun j => (s2.frozen (p := ⟨w.heap.size + 1, j, none⟩) (show w.heap.size + 1 < _ from World.block_lt_of_cell? _ ⟨w.heap.size + 1, 0, none⟩ k1_2)).trans (f1_1 j); clear f1_1
          have f2_2 : ∀ j, w2.frozen? ⟨w.heap.size + 1 + 1, j, none⟩ = false := fun j => (s2.frozen (p := ⟨w.heap.size + 1 + 1, j, none⟩) (show w.heap.size + 1 + 1 < _ from World.block_lt_of_cell? _ ⟨w.heap.size + 1 + 1, 0, none⟩ k2_2)).trans (f2_1 j); clear f2_1
          clear r2
          go_wp2_with fail
          refine (HSZ.out _ b2).mono ?_
          rintro _ _ ⟨rfl, rfl⟩
          go_wp2_with fail
          refine (HIN.out _).mono ?_
          rintro _ _ ⟨rfl, rfl⟩
          go_wp2_with fail
          have e0 := c0_0_2
          have e1 := c0_1_2
          have g0 := c1_0_2
          have g1 := c1_1_2
          have g2 := c1_2_2
          have r0 := c2_0_2
          have r1 := c2_1_2
          have rf := f2_2
          have hvN : ∀ w' : World, (w'.alloc (.cells #[.int .i64 a, .int .i64 b, .int .i64 c] 37)).heap[w'.heap.size]? = some (ringO (a, b, c)) := fun w' => heap_alloc_new w' _
          have hvn : ∀ (w' : World) (x : Nat), x < w'.heap.size → w'.heap.size ≠ x := fun w' x h e => by omega
          have hsl : ∀ o, w2.heap.size < (w2.alloc o).heap.size := fun o => by simp
          have hR0 : w.heap.size ≠ w.heap.size + 1 + 1 := by omega
          have hR1 : w.heap.size + 1 ≠ w.heap.size + 1 + 1 := by omega
          have v12 : w.heap.size + 3 ≤ w2.heap.size := by omega
          clear c0_0_2 c0_1_2 c1_0_2 c1_1_2 c1_2_2 c2_0_2 c2_1_2 f0_2 f1_2 f2_2
          go_region_held3 (fun w' => w'.cell? ⟨w.heap.size, 0, none⟩ = some (.string nm) ∧ w'.cell? ⟨w.heap.size, 1, none⟩ = some (.slice ao ps.length cap) ∧ w'.cell? ⟨w.heap.size + 1, 0, none⟩ = some (.int .i64 a) ∧ w'.cell? ⟨w.heap.size + 1, 1, none⟩ = some (.int .i64 b) ∧ w'.cell? ⟨w.heap.size + 1, 2, none⟩ = some (.int .i64 c)) (first | with_reducible exact ⟨e0, e1, g0, g1, g2⟩ | with_reducible exact ⟨two_keep e0 hR0, two_keep e1 hR0, two_keep g0 hR1, two_keep g1 hR1, two_keep g2 hR1⟩ | exact ⟨below_cell (by go_grown) e0, below_cell (by go_grown) e1, below_cell (by go_grown) g0, below_cell (by go_grown) g1, below_cell (by go_grown) g2⟩) ((first | (go_at_call 60; refine (HCL.out w2.drew (b2.trans (Below.mono (by go_grown) z2))).mono ?_; rintro _ w3 ⟨v3, rfl, o3, q3'⟩; have q3 : Below w2.heap.size w2 w3 := Below.trans (by go_grown) (q3'.mono (by simp; try omega)); have e0 := below_cell q3 e0; have e1 := below_cell q3 e1; have g0 := below_cell q3 g0; have g1 := below_cell q3 g1; have g2 := below_cell q3 g2; have r0 := below_cell q3 r0; have r1 := below_cell q3 r1; have rf : ∀ j, w3.frozen? ⟨w.heap.size + 1 + 1, j, none⟩ = false := fun j => (q3.frozen (p := ⟨w.heap.size + 1 + 1, j, none⟩) (show w.heap.size + 1 + 1 < _ by omega)).trans (rf j); have o3 : OwnR w2.heap.size w3 v3 ps := own_base o3 (by simp); obtain ⟨gg, cap3, rfl, hg3, hg4⟩ := World.ownsRow.form o3 HL1.out; have hg4' := own_lt o3 gg rfl; have b3 := b2.trans (q3.mono z2); have y3 := q3.size; have O3 := Lib.hid o3; clear o3; clear q3' q3; have hBB : True := trivial) | (go_at_call 60; refine (HCL.out (w2.alloc (.cells #[.int .i64 a, .int .i64 b, .int .i64 c] 37)).drew (b2.trans (Below.mono (by go_grown) z2))).mono ?_; rintro _ w3 ⟨v3, rfl, o3, q3'⟩; refine (fun (hvb : w3.heap[w2.heap.size]? = some (ringO (a, b, c))) => ?_) ((q3'.block w2.heap.size (hsl _)).trans (hvN w2)); have lo3 := own_lo o3; have q3 : Below w2.heap.size w2 w3 := Below.trans (by go_grown) (q3'.mono (by simp; try omega)); have e0 := below_cell q3 e0; have e1 := below_cell q3 e1; have g0 := below_cell q3 g0; have g1 := below_cell q3 g1; have g2 := below_cell q3 g2; have r0 := below_cell q3 r0; have r1 := below_cell q3 r1; have rf : ∀ j, w3.frozen? ⟨w.heap.size + 1 + 1, j, none⟩ = false := fun j => (q3.frozen (p := ⟨w.heap.size + 1 + 1, j, none⟩) (show w.heap.size + 1 + 1 < _ by omega)).trans (rf j); have o3 : OwnR w2.heap.size w3 v3 ps := own_base o3 (by simp); obtain ⟨gg, cap3, rfl, hg3, hg4⟩ := World.ownsRow.form o3 HL1.out; have hg4' := own_lt o3 gg rfl; have hnv : w2.heap.size ≠ gg := (fun e => by have h8 := lo3 gg rfl; simp only [World.size_drew, World.size_alloc] at h8; omega); have b3 := b2.trans (q3.mono z2); have y3 := q3.size; have O3 := Lib.hid o3; clear o3; clear q3' q3) | (go_at_call 59; have hq := hvb; refine (HINS.out w2.heap.size gg cap3 w2.heap.size _ (by first | exact O3.out | exact own_later O3.out (by go_grown)) (by omega) hvb hnv).mono ?_; rintro _ w4 ⟨v4, rfl, o4, q4'⟩; have q4 := (Only.of_below (S := fun b => b = gg) (show Below w3.heap.size w3 _ by go_grown)).trans q4'; clear q4'; have e0 := cell_only q4 e0 (by show ¬ w.heap.size = gg; omega); have e1 := cell_only q4 e1 (by show ¬ w.heap.size = gg; omega); have g0 := cell_only q4 g0 (by show ¬ w.heap.size + 1 = gg; omega); have g1 := cell_only q4 g1 (by show ¬ w.heap.size + 1 = gg; omega); have g2 := cell_only q4 g2 (by show ¬ w.heap.size + 1 = gg; omega); have r0 := cell_only q4 r0 (by show ¬ w.heap.size + 1 + 1 = gg; omega); have r1 := cell_only q4 r1 (by show ¬ w.heap.size + 1 + 1 = gg; omega); have rf : ∀ j, w4.frozen? ⟨w.heap.size + 1 + 1, j, none⟩ = false := fun j => (frozen_only q4 (p := ⟨w.heap.size + 1 + 1, j, none⟩) (show w.heap.size + 1 + 1 < _ by omega) (show ¬ w.heap.size + 1 + 1 = gg by omega)).trans (rf j); have b4 := Only.below b3 q4 (by omega) (fun b e => by omega); have y4 := q4.size; have O4 := Lib.hid o4; clear o4; obtain ⟨a4, c4, rfl⟩ := own_shape O4.out; clear q4) | (go_at_call 59; have hq := hBB; refine (HINS.out w2.heap.size gg cap3 w3.heap.size (w3.alloc (.cells #[.int .i64 a, .int .i64 b, .int .i64 c] 37)) (by first | exact O3.out | exact own_later O3.out (by go_grown)) (by simp; try omega) (hvN w3) (hvn w3 gg hg4')).mono ?_; rintro _ w4 ⟨v4, rfl, o4, q4'⟩; have q4 := (Only.of_below (S := fun b => b = gg) (show Below w3.heap.size w3 _ by go_grown)).trans q4'; clear q4'; have e0 := cell_only q4 e0 (by show ¬ w.heap.size = gg; omega); have e1 := cell_only q4 e1 (by show ¬ w.heap.size = gg; omega); have g0 := cell_only q4 g0 (by show ¬ w.heap.size + 1 = gg; omega); have g1 := cell_only q4 g1 (by show ¬ w.heap.size + 1 = gg; omega); have g2 := cell_only q4 g2 (by show ¬ w.heap.size + 1 = gg; omega); have r0 := cell_only q4 r0 (by show ¬ w.heap.size + 1 + 1 = gg; omega); have r1 := cell_only q4 r1 (by show ¬ w.heap.size + 1 + 1 = gg; omega); have rf : ∀ j, w4.frozen? ⟨w.heap.size + 1 + 1, j, none⟩ = false := fun j => (frozen_only q4 (p := ⟨w.heap.size + 1 + 1, j, none⟩) (show w.heap.size + 1 + 1 < _ by omega) (show ¬ w.heap.size + 1 + 1 = gg by omega)).trans (rf j); have b4 := Only.below b3 q4 (by omega) (fun b e => by omega); have y4 := q4.size; have O4 := Lib.hid o4; clear o4; obtain ⟨a4, c4, rfl⟩ := own_shape O4.out; clear q4) | (go_at_call 58; refine (HDONE.out w2.heap.size _ _ (by first | exact O4.out | exact own_later O4.out (by go_grown))).mono ?_; rintro _ w5 ⟨v5, rfl, o5, q6⟩; have q3 : Below w4.heap.size w4 w5 := Below.trans (by go_grown) (q6.mono (by simp; try omega)); have e0 := below_cell q3 e0; have e1 := below_cell q3 e1; have g0 := below_cell q3 g0; have g1 := below_cell q3 g1; have g2 := below_cell q3 g2; have r0 := below_cell q3 r0; have r1 := below_cell q3 r1; have rf : ∀ j, w5.frozen? ⟨w.heap.size + 1 + 1, j, none⟩ = false := fun j => (q3.frozen (p := ⟨w.heap.size + 1 + 1, j, none⟩) (show w.heap.size + 1 + 1 < _ by omega)).trans (rf j); have b5 := b4.trans (q3.mono (by omega)); obtain ⟨a5, p5, rfl⟩ := own_shape o5; have O5 := Lib.hid o5; clear o5; clear q6 q3)))
          all_goals (
            have lo5 := own_lo O5.out
            go_wp2
            refine bodyPost_ret (v := .tuple #[.agg #[.string RES.1, .slice a5 RES.2.1.length p5], .int .i64 RES.2.2]) (by simp [results, Tryz.results18, go_sem, r0, r1]) rfl ?_
            have o11 := own_set O5.out (a := ⟨w.heap.size + 1 + 1, 0, none⟩) (fun k hk => by have h8 := lo5 k hk; show w.heap.size + 1 + 1 ≠ k; omega) (.string RES.1)
            have o12 := own_set o11 (a := ⟨w.heap.size + 1 + 1, 1, none⟩) (fun k hk => by have h8 := lo5 k hk; show w.heap.size + 1 + 1 ≠ k; omega) (.slice a5 RES.2.1.length p5)
            exact ⟨_, rfl, own_base o12 z2, (b5.setCell (show w.heap.size ≤ w.heap.size + 1 + 1 by omega) _).setCell (show w.heap.size ≤ w.heap.size + 1 + 1 by omega) _⟩)

end Go.Proofs.YtgdadbmhdljcdaaGreatDoor

/- A ring is inserted: the reference's l05With. -/
namespace Go.Proofs.YtgdadbmhdljcdaaGreatDoor
set_option linter.unusedVariables false
open Go.RowKit Go.Proofs.Bell Go.BigFrame

structure WSt (g R : Nat) (nm : ByteArray) (u v : Value) (qs : List (Int × Int × Int)) (w wr : World) : Prop where
  below : Below w.heap.size w wr
  hg : g < w.heap.size
  hR : w.heap.size ≤ R
  hz : R + 1 ≤ wr.heap.size
  r0 : wr.cell? ⟨R, 0, none⟩ = some (.string ⟨#[]⟩)
  r1 : wr.cell? ⟨R, 1, none⟩ = some (.slice none 0 0)
  rf : ∀ j, wr.frozen? ⟨R, j, none⟩ = false
  p0 : wr.cell? ⟨g, 0, none⟩ = some (.string nm)
  p1 : wr.cell? ⟨g, 1, none⟩ = some u
  own : OwnR (R + 1) wr v qs
theorem WSt.step {g R : Nat} {nm : ByteArray} {u v v' : Value} {qs qs' : List (Int × Int × Int)} {w wr w1 : World} (h : WSt g R nm u v qs w wr) (o : OwnR (R + 1) w1 v' qs') (q : Only (fun b => v.ownBlock = some b) wr w1) : WSt g R nm u v' qs' w w1 := by
  have h1 := h.hg; have h2 := h.hR; have h3 := h.hz
  have lo := own_lo h.own
  have nR : ¬ v.ownBlock = some R := fun e => by have := lo R e; omega
  have ng : ¬ v.ownBlock = some g := fun e => by have := lo g e; omega
  exact ⟨Only.below h.below q h.below.size (fun b e => by have := lo b e; omega), h1, h2, Nat.le_trans h3 q.size, cell_only q h.r0 nR, cell_only q h.r1 nR, fun j => (frozen_only q (p := ⟨R, j, none⟩) (show R < _ by omega) nR).trans (h.rf j), cell_only q h.p0 ng, cell_only q h.p1 ng, o⟩
theorem WSt.fin {g R : Nat} {nm : ByteArray} {u v : Value} {qs : List (Int × Int × Int)} {w wr : World} (h : WSt g R nm u v qs w wr) : OwnR w.heap.size ((wr.setCell ⟨R, 0, none⟩ (.string nm)).setCell ⟨R, 1, none⟩ v) v qs ∧ Below w.heap.size w ((wr.setCell ⟨R, 0, none⟩ (.string nm)).setCell ⟨R, 1, none⟩ v) := by
  have h2 := h.hR
  have lo := own_lo h.own
  have nR : ∀ k, v.ownBlock = some k → R ≠ k := fun k e => by have := lo k e; omega
  exact ⟨own_base (own_set (own_set h.own nR _) nR _) (by omega), (h.below.setCell h2 _).setCell h2 _⟩

end Go.Proofs.YtgdadbmhdljcdaaGreatDoor

/- A ring is inserted: the reference's side. -/
namespace Go.Proofs.YtgdadbmhdljcdaaGreatDoor
set_option linter.unusedVariables false
open Go.RowKit Go.Proofs.Bell Go.BigFrame

end Go.Proofs.YtgdadbmhdljcdaaGreatDoor

