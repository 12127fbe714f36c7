/- slices.Insert at rings: one ring. -/
import Derived.Test.YtjlenafdpoknhaaIns
import Derived.Laws.Externs
namespace Go.Proofs.Ytjlenafdpoknhaa
set_option linter.unusedVariables false
open Go.RowKit Go.Proofs.Bell Go.BigFrame

theorem drew_setCells' (b : Nat) : ∀ (vs : List Value) (o : Nat) (w : World), (w.setCells b o vs).drew = w.drew.setCells b o vs
  | [], _, _ => rfl
  | v :: r, o, w => by rw [World.setCells, World.setCells, drew_setCells' b r]; rfl
theorem wp_copy_runR (w : World) {o : Oper} {a : Act} {K : Act → World → Prop} {Q : Exit → Act → World → Prop} (d s : Operand) (t t' : TypeId)
    (ho : o.op = .call { callee := .builtin .copy, args := #[d, s], argTypes := #[t, t'] }) (v u : Value) (hd : a.eval d = v) (hs : a.eval s = u) {v' : Value} {w' : World}
    (hr : (Builtin.copy_ #[t, t'] o.type #[v, u]).run Try.prog w = .ok v' w') (h : K (a.put o.dst v') w') : o.wp Try.prog a w K Q := by
  unfold Oper.wp execOp
  simp only [ho, resolve, invoke, builtin, Sem.run_bind, Sem.run_pure, Result.andThen_ok, List.map_toArray, List.map_cons, List.map_nil, hd, hs, hr]
  exact h
theorem wpList_copy_runR (w : World) {ops : Array Oper} {rest : List Oper} {o : Oper} {a : Act} {Q : Exit → Act → World → Prop} (hgd : o.guard = none) (d s : Operand) (t t' : TypeId)
    (ho : o.op = .call { callee := .builtin .copy, args := #[d, s], argTypes := #[t, t'] }) (v u : Value) (hd : a.eval d = v) (hs : a.eval s = u) {v' : Value} {w' : World}
    (hr : (Builtin.copy_ #[t, t'] o.type #[v, u]).run Try.prog w = .ok v' w') (h : wpList Try.prog ops Q rest (a.put o.dst v') w') : wpList Try.prog ops Q (o :: rest) a w :=
  wpList_plain hgd fun _ hK => wp_copy_runR w d s t t' ho v u hd hs hr (hK _ _ h)
theorem step_copy_runR {ops : Array Oper} {o : Oper} {a : Act} {w : World} {K : Act → World → Prop} {Q : Exit → Act → World → Prop} {E : Prop}
    (hg : o.guard = none) (d x : Operand) (dT sT : TypeId) (hop : o.op = Op.call { callee := Callee.builtin Builtin.copy, args := #[d, x], argTypes := #[dT, sT] })
    (v u : Value) (hd : a.eval d = v) (hx : a.eval x = u) {v' : Value} {w' : World} (hr : (Builtin.copy_ #[dT, sT] o.type #[v, u]).run Try.prog w = .ok v' w') (hK : K (a.put o.dst v') w') :
    if Region.wanted o (yielded ops a.tmps) = true then Oper.wp Try.prog o a w K Q else E := by
  have hw : Region.wanted o (yielded ops a.tmps) = true := by simp [Region.wanted, hg]
  rw [if_pos hw]
  unfold Oper.wp
  simp [execOp, hop, resolve, invoke, builtin, hd, hx, hr, Result.andThen]
  exact hK

def RetIns (base g : Nat) (rs : List (Int × Int × Int)) (w : World) (e : Ending) (w' : World) : Prop := ∃ v, e = .returned v ∧ OwnR base w' v rs ∧ Only (fun b => b = g) w w'
def ringO (r : Int × Int × Int) : Obj := .cells #[.int .i64 r.1, .int .i64 r.2.1, .int .i64 r.2.2] 38 (0, 0)
theorem ring_cells {w : World} {vb : Nat} {r : Int × Int × Int} (h : w.heap[vb]? = some (ringO r)) : ∀ j v, (trips [r])[j]? = some v → w.cell? ((⟨vb, 0, none⟩ : Addr).add j) = some v := fun j v hj => by
  rw [add_norm _ rfl, Nat.zero_add, cell_of_row w vb j _ _ _ h]
  simpa [trips] using hj

set_option maxRecDepth 100000 in
set_option maxHeartbeats 1600000 in
theorem InsertEnd_c (base g cap vb : Nat) (rs : List (Int × Int × Int)) (r : Int × Int × Int) (w : World) (h : OwnR base w (.slice (some ⟨g, 0, none⟩) rs.length cap) rs) (hbase : base ≤ w.heap.size) (hv : w.heap[vb]? = some (ringO r)) (hm : rs.length ≤ 1000) :
    Calls Try.prog 48 #[.slice (some ⟨g, 0, none⟩) rs.length cap, .int .i64 rs.length, .slice (some ⟨vb, 0, none⟩) 1 1] w (RetIns base g (rs ++ [r]) w) := by
  have hnc := rd_cap (Rd.of_own h)
  have hvc := ring_cells hv
  have hn0 : ¬ (cap < rs.length) := by omega
  have H := Lib.hid h; clear h
  have HVC := Lib.hid hvc; clear hvc
  clear hv
  go_enter Try.func48, Try.ntmps48
  go_wp2_with (at_builtin; refine appA_R (.tmp 23) (.tmp 24) _ base _ rs [r] ⟨vb, 0, none⟩ 1 1 (by rfl) (by rfl) (by rfl) (by rfl) rfl H.out HVC.out (by omega) (by omega) hbase ?_; intro v2 w2 o2 q2)
  all_goals (
    go_returns
    exact ⟨v2, rfl, o2, q2.mono (fun b e => by simpa [Value.ownBlock, eq_comm] using e)⟩)

theorem overlap_apart {w : World} {vb g off : Nat} {r : Int × Int × Int} {cur : Array Value} {tB : TypeId} {fz : Nat × Nat} (h : w.heap[vb]? = some (ringO r)) (hg : w.heap[g]? = some (.cells cur tB fz)) (hne : vb ≠ g) (hc : cur.size ≠ 0) (lb cb : Nat) :
    (callFunc 86 #[.slice (some ⟨vb, 0, none⟩) 1 1, .slice (some ⟨g, off, none⟩) lb cb]).run Try.prog w = .ok (.value (.bool false)) w := by
  obtain ⟨i0, hi0, hz0, hz1, hz2⟩ := info_parts info_Ring
  have hsz : ∀ w, (Go.sizeOf 38).run Try.prog w = .ok 3 w := fun w => by simp [sizeOf, typeInfo, hi0, hz1]
  have s1 : w.shape? vb = some (38, 3) := by simp [World.shape?, h, ringO]
  have s2 : w.shape? g = some (tB, cur.size) := by simp [World.shape?, hg]
  rw [run_callFunc_extern Try.func86 (by kernel_rfl) (by kernel_rfl) (by kernel_rfl) (e := Extern.SlicesOverlaps.overlaps #[26, 26] #[4]) (by kernel_rfl),
    Lib.run_overlaps_apart w 26 4 38 Try.underlying26 3 hsz ⟨vb, 0, none⟩ ⟨g, off, none⟩ 1 1 lb cb hne 38 tB 3 cur.size s1 s2 hc (by simp [World.frozen?, h, ringO]) (by simp [World.frozen?, h, ringO])]
  rfl

end Go.Proofs.Ytjlenafdpoknhaa
