/- Lists of numbers copied: the reference's and the library's; five times a number. -/
import Derived.Test.YtmeeibcbhjifbaaGE
import Derived.Test.YtmeeibcbhjifbaaGoals
namespace Go.Proofs.Ytmeeibcbhjifbaa
set_option linter.unusedVariables false
open Go.RowKit Go.Proofs.Bell Go.BigFrame

theorem wappN_I {o : Oper} {a : Act} {K : Act → World → Prop} {Q : Exit → Act → World → Prop} (s x : Operand) (W : World) (base : Nat) (v u : Value) (qs rs : List Int)
    (ho : o.op = .call { callee := .builtin .append, args := #[s, x], argTypes := #[38, 38] })
    (hs : a.eval s = v) (hx : a.eval x = u) (hown : OwnI base W v qs) (hrd : Rd W u rs.length (ints rs)) (h1 : 1 ≤ rs.length) (hn : qs.length ≤ 1000000) (hm : rs.length ≤ 1000000) (hbase : base ≤ W.heap.size)
    (h : ∀ v' w', OwnI base w' v' (qs ++ rs) → Only (fun b => v.ownBlock = some b) W w' → K (a.put o.dst v') w') : o.wp Try.prog a W K Q := by
  obtain ⟨i0, hi, hz0, hz1, hz2⟩ := info_parts info_int64
  obtain ⟨_, ao, cap, b, off, rfl, hao, hcell⟩ := hrd.open
  obtain rfl : ao = some ⟨b, off, none⟩ := hao (by omega)
  refine wp_append_own W s x 38 ho base 2 i0 _ 1 8 Try.underlying38 hi hz0 hz1 hz2 rfl (by decide) v qs.length (ints qs) hs hown ⟨b, off, none⟩ rs.length cap (ints rs) hx (by rw [ints_len, Nat.mul_one]) (fun j u hj => ?_) (fun u hu => ?_) (by unfold maxLen; omega) (by omega) hbase ?_
  · rw [add_norm _ rfl]; exact hcell _ (Below.refl _ _) j u (by omega) hj
  · obtain ⟨p, _, hp⟩ := List.mem_map.1 hu
    subst hp; rfl
  · intro v' w' ho' hg _
    refine h v' w' ?_ (Only.of_grown hg)
    unfold OwnI
    rw [List.length_append]
    have e : ints (qs ++ rs) = ints qs ++ ints rs := by simp [ints]
    rw [e]; exact ho'
theorem appN_I {ops : Array Oper} {rest : List Oper} {o : Oper} {a : Act} {Q : Exit → Act → World → Prop} (s x : Operand) (W : World) (base : Nat) (v u : Value) (qs rs : List Int)
    (ho : o.op = .call { callee := .builtin .append, args := #[s, x], argTypes := #[38, 38] }) (hgd : o.guard = none)
    (hs : a.eval s = v) (hx : a.eval x = u) (hown : OwnI base W v qs) (hrd : Rd W u rs.length (ints rs)) (h1 : 1 ≤ rs.length) (hn : qs.length ≤ 1000000) (hm : rs.length ≤ 1000000) (hbase : base ≤ W.heap.size)
    (h : ∀ v' w', OwnI base w' v' (qs ++ rs) → Only (fun b => v.ownBlock = some b) W w' → wpList Try.prog ops Q rest (a.put o.dst v') w') : wpList Try.prog ops Q (o :: rest) a W :=
  wpList_plain hgd fun _ hK => wappN_I s x W base v u qs rs ho hs hx hown hrd h1 hn hm hbase fun v' w' h2 h3 => hK _ _ (h v' w' h2 h3)

set_option maxRecDepth 100000 in
set_option maxHeartbeats 800000 in
theorem l00Own_c (v : Value) (rs : List Int) (w : World) (hr : Rd w v rs.length (ints rs)) (h1 : 1 ≤ rs.length) (hl : rs.length ≤ 1000) :
    Calls Try.prog 149 #[v] w (RetOwnI rs w) := by
  have hrd := fun w' (hb : Below w.heap.size w w') => hr.later hb
  obtain ⟨hn, ao, cap, b, off, rfl, hao, hcell⟩ := hr.open
  obtain rfl : ao = some ⟨b, off, none⟩ := hao (by omega)
  clear hcell hao hr
  have HRD := Lib.hid hrd; clear hrd
  go_enter Try.func149, Try.ntmps149
  go_wp2_with (at_builtin; refine appN_I (.tmp 3) (.tmp 4) _ w.heap.size _ _ [] rs (by rfl) (by rfl) (by rfl) (by rfl) (own_empty _ _ _ _ (Nat.le_refl _)) (HRD.out _ (by go_grown)) h1 (Nat.zero_le _) (by omega) (by simp) ?_; intro v2 w2 o2 q2)
  go_returns
  exact ⟨_, rfl, o2, Only.below (by go_grown) q2 (by simp) (fun b hS => by simp [Value.ownBlock] at hS; omega)⟩

set_option maxRecDepth 100000 in
set_option maxHeartbeats 800000 in
theorem CloneI_c (v : Value) (rs : List Int) (w : World) (hr : Rd w v rs.length (ints rs)) (h1 : 1 ≤ rs.length) (hl : rs.length ≤ 1000) :
    Calls Try.prog 119 #[v] w (RetOwnI rs w) := by
  have hrd := fun w' (hb : Below w.heap.size w w') => hr.later hb
  obtain ⟨hn, ao, cap, b, off, rfl, hao, hcell⟩ := hr.open
  obtain rfl : ao = some ⟨b, off, none⟩ := hao (by omega)
  clear hcell hao hr
  have HRD := Lib.hid hrd; clear hrd
  have hnil := fun w' => Lib.run_eql_slice_nil (P := Try.prog) w' 38 2 (some ⟨b, off, none⟩) rs.length cap 0 0 Try.underlying38
  go_enter Try.func119, Try.ntmps119
  go_wp2_with (at_builtin; refine appN_I (.tmp 5) (.tmp 6) _ w.heap.size _ _ [] rs (by rfl) (by rfl) (by rfl) (by rfl) (own_empty _ _ _ _ (Nat.le_refl _)) (HRD.out _ (by go_grown)) h1 (Nat.zero_le _) (by omega) (by simp) ?_; intro v2 w2 o2 q2)
  go_returns
  exact ⟨_, rfl, o2, Only.below (by go_grown) q2 (by simp) (fun b hS => by simp [Value.ownBlock] at hS; omega)⟩

theorem own_five (w : World) (a b c d f : Int) (base : Nat) (hb : base ≤ w.heap.size) : OwnI base (w.alloc (.cells #[.int .i64 a, .int .i64 b, .int .i64 c, .int .i64 d, .int .i64 f] 2)) (.slice (some ⟨w.heap.size, 0, none⟩) 5 5) [a, b, c, d, f] :=
  ⟨rfl, .inr ⟨w.heap.size, 5, _, rfl, hb, heap_alloc_new w _, Nat.le_refl _, by decide, rfl, rfl⟩⟩

end Go.Proofs.Ytmeeibcbhjifbaa
