/- Several texts of the proofs in one: Goals, Own1, Goals2. -/
import Derived.Test.YtgdadbmhdljcdaaGreatDoorGB
import Derived.Test.YtgdadbmhdljcdaaGreatDoorGC
import Derived.Test.YtgdadbmhdljcdaaGreatDoorGE
import Derived.Test.YtgdadbmhdljcdaaGreatDoorWH
import Derived.BigRegion
/- Sounds and goals: the law's copy, validity. -/
namespace Go.Proofs.YtgdadbmhdljcdaaGreatDoor
set_option linter.unusedVariables false
open Go.RowKit Go.Proofs.Bell Go.BigFrame

theorem rd_five {w : World} {b : Nat} {a0 a1 a2 a3 a4 : Int} (hb : b < w.heap.size) (h0 : w.cell? ⟨b, 0, none⟩ = some (.int .i64 a0)) (h1 : w.cell? ⟨b, 1, none⟩ = some (.int .i64 a1)) (h2 : w.cell? ⟨b, 2, none⟩ = some (.int .i64 a2)) (h3 : w.cell? ⟨b, 3, none⟩ = some (.int .i64 a3)) (h4 : w.cell? ⟨b, 4, none⟩ = some (.int .i64 a4)) :
    Rd w (.slice (some ⟨b, 0, none⟩) 5 5) 5 (ints [a0, a1, a2, a3, a4]) := by
  refine ⟨by decide, .inr ⟨by decide, b, 0, 5, rfl, by decide, by decide, hb, fun j u hj => ?_⟩⟩
  match j, hj with
  | 0, hj => simp [ints] at hj; subst hj; simpa using h0
  | 1, hj => simp [ints] at hj; subst hj; simpa using h1
  | 2, hj => simp [ints] at hj; subst hj; simpa using h2
  | 3, hj => simp [ints] at hj; subst hj; simpa using h3
  | 4, hj => simp [ints] at hj; subst hj; simpa using h4
  | n + 5, hj => simp [ints] at hj

def RetRdI (zs : List Int) (w : World) (e : Ending) (w' : World) : Prop := ∃ v, e = .returned v ∧ Rd w' v zs.length (ints zs) ∧ Below w.heap.size w w'

theorem listOf_c (a b c d f : Int) (w : World) : Calls Tryz.prog 69 #[.agg #[.int .i64 a, .int .i64 b, .int .i64 c, .int .i64 d, .int .i64 f]] w (RetRdI [a, b, c, d, f] w) := by
  go_enter Tryz.func69, Tryz.ntmps69
  go_wp2
  go_returns
  refine ⟨_, rfl, rd_five ?_ ?_ ?_ ?_ ?_ ?_, ?_⟩
  all_goals first | go_grown | simp [go_sem]

theorem l04List_c (a b c d f : Int) (g o : Nat) (w : World) (h0 : w.cell? ⟨g, o, none⟩ = some (.int .i64 a)) (h1 : w.cell? ⟨g, o + 1, none⟩ = some (.int .i64 b)) (h2 : w.cell? ⟨g, o + 2, none⟩ = some (.int .i64 c)) (h3 : w.cell? ⟨g, o + 3, none⟩ = some (.int .i64 d)) (h4 : w.cell? ⟨g, o + 4, none⟩ = some (.int .i64 f)) :
    Calls Tryz.prog 76 #[.pointer (some ⟨g, o, none⟩)] w (RetRdI [a, b, c, d, f] w) := by
  go_enter Tryz.func76, Tryz.ntmps76
  go_wp2_with fail
  go_region
  all_goals (try go_wp2)
  all_goals go_returns
  all_goals (refine ⟨_, rfl, rd_five ?_ ?_ ?_ ?_ ?_ ?_, ?_⟩)
  all_goals first | go_grown | simp [go_sem]

def allF (zs : List Int) : Bool := zs.all freqB

set_option maxHeartbeats 800000 in
theorem areFrequencies_c (v : Value) (zs : List Int) (w : World) (h : Rd w v zs.length (ints zs)) :
    Calls Tryz.prog 120 #[v] w (RetS (.bool (allF zs)) w) := by
  generalize hn : zs.length = n at h
  have HN := Lib.hid hn; clear hn
  obtain ⟨hn, ao, cap, b, off, rfl, hao, hcell⟩ := h.open
  clear h
  go_enter Tryz.func120, Tryz.ntmps120
  go_wp2_with fail
  go_loop [7] (fun i => ∃ (k : Nat), k ≤ n ∧ i = .int .i64 k ∧ (zs.take k).all freqB = true) (fun i => n - (intOf i).toNat)
  case atStart => exact ⟨0, Nat.zero_le _, rfl, rfl⟩
  case round =>
    obtain ⟨k, hk, rfl, hx⟩ := hrel
    have HX := Lib.hid hx; clear hx
    by_cases hlt : k < n
    · have hltp : k < zs.length := by rw [HN.out]; exact hlt
      have hix := ix (P := Tryz.prog) (T := 42) (cap := cap) Tryz.underlying42 cells_int64 has_int64 hao hlt k rfl
      rw [Nat.mul_one] at hix
      have hc1 : w.cell? ⟨b, off + k, none⟩ = some (.int .i64 zs[k]) := hcell _ (Below.refl _ _) _ _ (by omega) (intsAt hltp)
      have hp : freqB zs[k] = true → (zs.take (k + 1)).all freqB = true := fun h => all_take_step HX.out hltp h
      have hq : freqB zs[k] = false → allF zs = false := fun h => all_false_of hltp h
      have HP := Lib.hid hp; clear hp
      have HQ := Lib.hid hq; clear hq
      clear hcell hao
      generalize zs[k] = z at *
      cases t1 : freqB z
      · go_wp2_with (go_at_call 155; refine (IsFrequency_c _ _).mono ?_; rintro _ _ ⟨rfl, rfl⟩; rw [t1])
        go_returns
        exact RetS.mk (bool_eq (HQ.out t1).symm)
      · go_wp2_with (go_at_call 155; refine (IsFrequency_c _ _).mono ?_; rintro _ _ ⟨rfl, rfl⟩; rw [t1])
        go_round
        case rel => exact ⟨k + 1, hlt, by go_num, HP.out t1⟩
        case measure => simp [intOf]; omega
    · have hkn : k = n := by omega
      subst hkn
      go_wp2
      go_returns
      refine RetS.mk (bool_eq ?_)
      have := HX.out
      rw [List.take_of_length_le (by rw [HN.out]; exact Nat.le_refl _)] at this
      exact this.symm

def soundB (a b c d f : Int) : Bool := risesB [a, b, c, d, f] 10000 20000000
theorem soundB_eq (a b c d f : Int) : soundB a b c d f = (allF [a, b, c, d, f] && decide (a < b) && decide (b < c) && decide (c < d) && decide (d < f)) := by
  have e : ∀ z, inB z 10000 20000000 = freqB z := fun _ => rfl
  rw [Bool.eq_iff_iff]
  show (List.range 5).all (riseAt [a, b, c, d, f] 10000 20000000) = true ↔ _
  simp only [List.range, List.range.loop, List.all_cons, List.all_nil, riseAt, e, allF, Bool.and_eq_true, List.getD, Bool.or_eq_true, decide_eq_true_eq]
  simp
  constructor
  · rintro ⟨h0, ⟨h1, k1⟩, ⟨h2, k2⟩, ⟨h3, k3⟩, h4, k4⟩
    simp_all
  · rintro ⟨⟨⟨⟨⟨h0, h1, h2, h3, h4⟩, k1⟩, k2⟩, k3⟩, k4⟩
    simp_all

set_option maxHeartbeats 3200000 in
theorem ValidSound_c (a b c d f : Int) (w : World) : Calls Tryz.prog 65 #[.agg #[.int .i64 a, .int .i64 b, .int .i64 c, .int .i64 d, .int .i64 f]] w (RetB (.bool (soundB a b c d f)) w) := by
  have hl := fun w' => listOf_c a b c d f w'
  have HL := Lib.hid hl; clear hl
  have hf := fun v w' h => areFrequencies_c v [a, b, c, d, f] w' h
  have HF := Lib.hid hf; clear hf
  have he := soundB_eq a b c d f
  have HE := Lib.hid he; clear he
  cases t0 : allF [a, b, c, d, f] <;> rw [t0] at HF HE
  · go_enter Tryz.func65, Tryz.ntmps65
    go_wp2_with (first | (go_at_call 69; refine (HL.out _).mono ?_; rintro _ w1 ⟨v1, rfl, r1, s1⟩; have R1 := Lib.hid r1; clear r1) | (go_at_call 120; refine (HF.out _ _ R1.out).mono ?_; rintro _ _ ⟨rfl, rfl⟩))
    go_returns
    exact RetB.mk (bool_eq (by rw [HE.out]; rfl)) (Below.trans (by go_grown) (s1.mono (by simp)))
  · by_cases h1 : a < b <;> by_cases h2 : b < c <;> by_cases h3 : c < d <;> by_cases h4 : d < f <;>
    · go_enter Tryz.func65, Tryz.ntmps65
      go_wp2_with (first | (go_at_call 69; refine (HL.out _).mono ?_; rintro _ w1 ⟨v1, rfl, r1, s1⟩; have R1 := Lib.hid r1; clear r1; have c0 := below_cell s1 (p := ⟨w.heap.size, 0, none⟩) (v := .int .i64 a) (by simp [go_sem]); have c1 := below_cell s1 (p := ⟨w.heap.size, 1, none⟩) (v := .int .i64 b) (by simp [go_sem]); have c2 := below_cell s1 (p := ⟨w.heap.size, 2, none⟩) (v := .int .i64 c) (by simp [go_sem]); have c3 := below_cell s1 (p := ⟨w.heap.size, 3, none⟩) (v := .int .i64 d) (by simp [go_sem]); have c4 := below_cell s1 (p := ⟨w.heap.size, 4, none⟩) (v := .int .i64 f) (by simp [go_sem])) | (go_at_call 120; refine (HF.out _ _ R1.out).mono ?_; rintro _ _ ⟨rfl, rfl⟩))
      go_returns
      exact RetB.mk (bool_eq (by rw [HE.out]; simp [h1, h2, h3, h4])) (Below.trans (by go_grown) (s1.mono (by simp)))

end Go.Proofs.YtgdadbmhdljcdaaGreatDoor

/- Lists of numbers copied: the reference's and the library's; five times a number. -/
namespace Go.Proofs.YtgdadbmhdljcdaaGreatDoor
set_option linter.unusedVariables false
open Go.RowKit Go.Proofs.Bell Go.BigFrame

theorem wappN_I {o : Oper} {a : Act} {K : Act → World → Prop} {Q : Exit → Act → World → Prop} (s x : Operand) (W : World) (base : Nat) (v u : Value) (qs rs : List Int)
    (ho : o.op = .call { callee := .builtin .append, args := #[s, x], argTypes := #[42, 42] })
    (hs : a.eval s = v) (hx : a.eval x = u) (hown : OwnI base W v qs) (hrd : Rd W u rs.length (ints rs)) (h1 : 1 ≤ rs.length) (hn : qs.length ≤ 1000000) (hm : rs.length ≤ 1000000) (hbase : base ≤ W.heap.size)
    (h : ∀ v' w', OwnI base w' v' (qs ++ rs) → Only (fun b => v.ownBlock = some b) W w' → K (a.put o.dst v') w') : o.wp Tryz.prog a W K Q := by
  obtain ⟨i0, hi, hz0, hz1, hz2⟩ := info_parts info_int64
  obtain ⟨_, ao, cap, b, off, rfl, hao, hcell⟩ := hrd.open
  obtain rfl : ao = some ⟨b, off, none⟩ := hao (by omega)
  refine wp_append_own W s x 42 ho base 2 i0 _ 1 8 Tryz.underlying42 hi hz0 hz1 hz2 rfl (by decide) v qs.length (ints qs) hs hown ⟨b, off, none⟩ rs.length cap (ints rs) hx (by rw [ints_len, Nat.mul_one]) (fun j u hj => ?_) (fun u hu => ?_) (by unfold maxLen; omega) (by omega) hbase ?_
  · rw [add_norm _ rfl]; exact hcell _ (Below.refl _ _) j u (by omega) hj
  · obtain ⟨p, _, hp⟩ := List.mem_map.1 hu
    subst hp; rfl
  · intro v' w' ho' hg _
    refine h v' w' ?_ (Only.of_grown hg)
    unfold OwnI
    rw [List.length_append]
    have e : ints (qs ++ rs) = ints qs ++ ints rs := by simp [ints]
    rw [e]; exact ho'
theorem appN_I {ops : Array Oper} {rest : List Oper} {o : Oper} {a : Act} {Q : Exit → Act → World → Prop} (s x : Operand) (W : World) (base : Nat) (v u : Value) (qs rs : List Int)
    (ho : o.op = .call { callee := .builtin .append, args := #[s, x], argTypes := #[42, 42] }) (hgd : o.guard = none)
    (hs : a.eval s = v) (hx : a.eval x = u) (hown : OwnI base W v qs) (hrd : Rd W u rs.length (ints rs)) (h1 : 1 ≤ rs.length) (hn : qs.length ≤ 1000000) (hm : rs.length ≤ 1000000) (hbase : base ≤ W.heap.size)
    (h : ∀ v' w', OwnI base w' v' (qs ++ rs) → Only (fun b => v.ownBlock = some b) W w' → wpList Tryz.prog ops Q rest (a.put o.dst v') w') : wpList Tryz.prog ops Q (o :: rest) a W :=
  wpList_plain hgd fun _ hK => wappN_I s x W base v u qs rs ho hs hx hown hrd h1 hn hm hbase fun v' w' h2 h3 => hK _ _ (h v' w' h2 h3)

set_option maxRecDepth 100000 in
set_option maxHeartbeats 800000 in
theorem l00Own_c (v : Value) (rs : List Int) (w : World) (hr : Rd w v rs.length (ints rs)) (h1 : 1 ≤ rs.length) (hl : rs.length ≤ 1000) :
    Calls Tryz.prog 173 #[v] w (RetOwnI rs w) := by
  have hrd := fun w' (hb : Below w.heap.size w w') => hr.later hb
  obtain ⟨hn, ao, cap, b, off, rfl, hao, hcell⟩ := hr.open
  obtain rfl : ao = some ⟨b, off, none⟩ := hao (by omega)
  clear hcell hao hr
  have HRD := Lib.hid hrd; clear hrd
  go_enter Tryz.func173, Tryz.ntmps173
  go_wp2_with (at_builtin; refine appN_I (.tmp 3) (.tmp 4) _ w.heap.size _ _ [] rs (by rfl) (by rfl) (by rfl) (by rfl) (own_empty _ _ _ _ (Nat.le_refl _)) (HRD.out _ (by go_grown)) h1 (Nat.zero_le _) (by omega) (by simp) ?_; intro v2 w2 o2 q2)
  go_returns
  exact ⟨_, rfl, o2, Only.below (by go_grown) q2 (by simp) (fun b hS => by simp [Value.ownBlock] at hS; omega)⟩

set_option maxRecDepth 100000 in
set_option maxHeartbeats 800000 in
theorem CloneI_c (v : Value) (rs : List Int) (w : World) (hr : Rd w v rs.length (ints rs)) (h1 : 1 ≤ rs.length) (hl : rs.length ≤ 1000) :
    Calls Tryz.prog 85 #[v] w (RetOwnI rs w) := by
  have hrd := fun w' (hb : Below w.heap.size w w') => hr.later hb
  obtain ⟨hn, ao, cap, b, off, rfl, hao, hcell⟩ := hr.open
  obtain rfl : ao = some ⟨b, off, none⟩ := hao (by omega)
  clear hcell hao hr
  have HRD := Lib.hid hrd; clear hrd
  have hnil := fun w' => Lib.run_eql_slice_nil (P := Tryz.prog) w' 42 2 (some ⟨b, off, none⟩) rs.length cap 0 0 Tryz.underlying42
  go_enter Tryz.func85, Tryz.ntmps85
  go_wp2_with (at_builtin; refine appN_I (.tmp 5) (.tmp 6) _ w.heap.size _ _ [] rs (by rfl) (by rfl) (by rfl) (by rfl) (own_empty _ _ _ _ (Nat.le_refl _)) (HRD.out _ (by go_grown)) h1 (Nat.zero_le _) (by omega) (by simp) ?_; intro v2 w2 o2 q2)
  go_returns
  exact ⟨_, rfl, o2, Only.below (by go_grown) q2 (by simp) (fun b hS => by simp [Value.ownBlock] at hS; omega)⟩

theorem own_five (w : World) (a b c d f : Int) (base : Nat) (hb : base ≤ w.heap.size) : OwnI base (w.alloc (.cells #[.int .i64 a, .int .i64 b, .int .i64 c, .int .i64 d, .int .i64 f] 2)) (.slice (some ⟨w.heap.size, 0, none⟩) 5 5) [a, b, c, d, f] :=
  ⟨rfl, .inr ⟨w.heap.size, 5, _, rfl, hb, heap_alloc_new w _, Nat.le_refl _, by decide, rfl, rfl⟩⟩

theorem fiveTimes_c (n : Int) (w : World) : Calls Tryz.prog 86 #[.int .i64 n] w (RetOwnI [n, n, n, n, n] w) := by
  go_enter Tryz.func86, Tryz.ntmps86
  go_wp2
  go_returns
  exact ⟨_, rfl, own_five w n n n n n _ (Nat.le_refl _), by go_grown⟩

end Go.Proofs.YtgdadbmhdljcdaaGreatDoor

/- Goals: validity, and the law. -/
namespace Go.Proofs.YtgdadbmhdljcdaaGreatDoor
set_option linter.unusedVariables false
open Go.RowKit Go.Proofs.Bell Go.BigFrame

def goalB (a b c d f t m : Int) : Bool := soundB a b c d f && inB t 0 20000 && inB m 0 20

theorem l04Ok_c (a b c d f : Int) (g : Nat) (w : World) (h0 : w.cell? ⟨g, 0, none⟩ = some (.int .i64 a)) (h1 : w.cell? ⟨g, 1, none⟩ = some (.int .i64 b)) (h2 : w.cell? ⟨g, 2, none⟩ = some (.int .i64 c)) (h3 : w.cell? ⟨g, 3, none⟩ = some (.int .i64 d)) (h4 : w.cell? ⟨g, 4, none⟩ = some (.int .i64 f)) :
    Calls Tryz.prog 74 #[.pointer (some ⟨g, 0, none⟩)] w (RetB (.bool (soundB a b c d f)) w) := by
  have hl := l04List_c a b c d f g 0 w h0 h1 h2 h3 h4
  have HL := Lib.hid hl; clear hl
  clear h0 h1 h2 h3 h4
  go_enter Tryz.func74, Tryz.ntmps74
  go_wp2_with (first | (go_at_call 76; refine HL.out.mono ?_; rintro _ w1 ⟨v1, rfl, r1, s1⟩; have R1 := Lib.hid r1; clear r1) | (go_at_call 125; refine (l00Rises_c v1 _ _ _ _ R1.out).mono ?_; rintro _ _ ⟨rfl, n, rfl⟩))
  go_returns
  exact RetB.mk rfl (below_drewN s1 _)

end Go.Proofs.YtgdadbmhdljcdaaGreatDoor

