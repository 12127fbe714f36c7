/- Slices of rings: the law's copy, size, comparison, marks. -/
import Derived.Test.YtddkjcdnomoglaaInts
import Derived.Test.YtddkjcdnomoglaaMem
import Derived.Test.YtddkjcdnomoglaaNums
import Derived.Lib.Hide
namespace Go.Proofs.Ytddkjcdnomoglaa
set_option linter.unusedVariables false
open Go.RowKit Go.Proofs.Bell Go.BigFrame

theorem toRing_c (a b c : Int) (w : World) : Calls Try.prog 37 #[.agg #[.int .i64 a, .int .i64 b, .int .i64 c]] w (RetB (.agg #[.int .i64 a, .int .i64 b, .int .i64 c]) w) := by
  go_enter Try.func37, Try.ntmps37
  go_wp2
  go_returns
  refine RetB.mk rfl ?_
  go_grown

def eqR (p q : Int × Int × Int) : Bool := decide (p = q)
theorem eqRing_c (p q : Int × Int × Int) (w : World) : Calls Try.prog 126 #[.agg #[.int .i64 p.1, .int .i64 p.2.1, .int .i64 p.2.2], .agg #[.int .i64 q.1, .int .i64 q.2.1, .int .i64 q.2.2]] w (RetB (.bool (eqR p q)) w) := by
  obtain ⟨a, b, c⟩ := p
  obtain ⟨d, e, f⟩ := q
  by_cases h0 : a = d <;> by_cases h1 : b = e <;> by_cases h2 : c = f <;>
  · go_enter Try.func126, Try.ntmps126
    go_wp2
    go_returns
    refine RetB.mk (bool_eq (by simp [eqR, h0, h1, h2])) ?_
    go_grown

theorem szRingS_c (v : Value) (n : Nat) (xs : List Value) (left : Int) (w : World) (h : Rd w v n xs) (_h1 : 0 ≤ left) (_h2 : left ≤ 9223372036854775807) :
    Calls Try.prog 59 #[v, .int .i64 left] w (RetS (.int .i64 (leftOf left n)) w) := by
  obtain ⟨hn, ao, cap, b, off, rfl, hao, hcell⟩ := h.open
  clear hcell hao h
  by_cases hl : left - n < 0 <;>
  · go_enter Try.func59, Try.ntmps59
    go_wp2
    go_returns
    exact RetS.mk (int_eq (by unfold leftOf; split <;> omega))

theorem info_Ring : (Try.prog.info? 52).map (fun i => (i.zero, i.size, i.bytes)) = some (some (.agg #[.int .i64 0, .int .i64 0, .int .i64 0]), 3, 24) := by kernel_rfl
theorem cells_Ring : Try.prog.cellsOf 52 = 3 := by kernel_rfl
theorem has_Ring : (Try.prog.info? 52).isSome = true := by kernel_rfl
theorem cells_lRing : Try.prog.cellsOf 50 = 3 := by kernel_rfl
theorem has_lRing : (Try.prog.info? 50).isSome = true := by kernel_rfl

/-- a slice of one's own that holds these -/
def OwnR (base : Nat) (w : World) (v : Value) (ps : List (Int × Int × Int)) : Prop := w.ownsRow base 52 3 v ps.length (trips ps)
def RetOwnR (ps : List (Int × Int × Int)) (w : World) (e : Ending) (w' : World) : Prop := ∃ v, e = .returned v ∧ OwnR w.heap.size w' v ps ∧ Below w.heap.size w w'

set_option maxHeartbeats 800000 in
theorem toRingS_c (v : Value) (ps : List (Int × Int × Int)) (w : World) (h : Rd w v ps.length (trips ps)) (hsz : ps.length * 24 ≤ 140737488351232) :
    Calls Try.prog 63 #[v] w (RetOwnR ps w) := by
  obtain ⟨i0, hi, hz0, hz1, hz2⟩ := info_parts info_Ring
  obtain ⟨hn, ao, cap, b, off, rfl, hao, hcell⟩ := h.open
  go_enter Try.func63, Try.ntmps63
  go_wp2_with (at_make; refine wpList_make_full _ rfl _ _ 29 rfl w.heap.size 52 i0 (.agg #[.int .i64 0, .int .i64 0, .int .i64 0]) 3 Try.underlying29 hi hz0 hz1 _ _ _ _ ps.length rfl rfl (by omega) (by omega) ?b2 ?b3 (Nat.le_refl _) ?_)
  case b2 => rw [hz2]; omega
  case b3 => unfold maxLen; omega
  intro w0 hown0 hg0
  have hb0 : Below w.heap.size w w0 := (Below.refl _ _).grown hg0 (Nat.le_refl _) (fun k h => by cases h)
  go_wp2
  go_loopw [4] (fun i wr => ∃ (k : Nat) (xs : List Value), k ≤ ps.length ∧ i = .int .i64 k ∧ wr.ownsRow w.heap.size 52 3 (.slice (some ⟨w.heap.size, 0, none⟩) ps.length ps.length) ps.length xs ∧ (∀ j, j < k * 3 → xs[j]? = (trips ps)[j]?) ∧ Below w.heap.size w wr)
    (fun i _ => ps.length - (intOf i).toNat)
  case atStart => exact ⟨0, _, Nat.zero_le _, rfl, hown0, fun j h => by omega, hb0⟩
  case round =>
    obtain ⟨k, xs, hk, rfl, hown, hx, hb⟩ := hrel
    by_cases hlt : k < ps.length
    · have hix := ix (P := Try.prog) (T := 22) (cap := cap) Try.underlying22 cells_lRing has_lRing hao hlt k rfl
      have hc := trips_at hlt
      have hc0 := hcell _ hb _ _ (by omega) hc.1
      have hc1 := hcell _ hb _ _ (by omega) hc.2.1
      rw [← Nat.add_assoc] at hc1
      have hc2 := hcell _ hb _ _ (by omega) hc.2.2
      rw [← Nat.add_assoc] at hc2
      have HC := Lib.hid hc; clear hc
      have HX := Lib.hid hx; clear hx
      clear hcell
      go_wp2_with (go_at_call 37; refine (toRing_c _ _ _ _).mono ?_; rintro _ w1 ⟨rfl, hb1⟩; have hown1 := own_later hown hb1; have hf0 := hown1.frozenAt (k * 3); have hg0 := hown1.cellAt (k * 3) (by omega); obtain ⟨u0, hu0⟩ : ∃ u, xs[k * 3]? = some u := ⟨_, List.getElem?_eq_getElem (by have := hown1.1; omega)⟩; rw [hu0] at hg0; have hf1 := hown1.frozenAt (k * 3 + 1); have hg1 := hown1.cellAt (k * 3 + 1) (by omega); obtain ⟨u1, hu1⟩ : ∃ u, xs[k * 3 + 1]? = some u := ⟨_, List.getElem?_eq_getElem (by have := hown1.1; omega)⟩; rw [hu1] at hg1; have hf2 := hown1.frozenAt (k * 3 + 2); have hg2 := hown1.cellAt (k * 3 + 2) (by omega); obtain ⟨u2, hu2⟩ : ∃ u, xs[k * 3 + 2]? = some u := ⟨_, List.getElem?_eq_getElem (by have := hown1.1; omega)⟩; rw [hu2] at hg2)
      go_roundw
      case rel =>
        have hl := hown.1
        exact ⟨k + 1, _, by omega, by go_num, ((((own_later hown ‹Below wr.heap.size wr w1›).stored _ _).1.stored _ _).1.stored _ _).1, set3_upto HX.out (by omega) HC.out.1 HC.out.2.1 HC.out.2.2, ((((hb.trans (‹Below wr.heap.size wr w1›.mono hb.size)).setCell (Nat.le_refl _) _).setCell (Nat.le_refl _) _).setCell (Nat.le_refl _) _)⟩
      case measure => simp [intOf]; omega
    · obtain rfl : k = ps.length := by omega
      go_wp2
      go_returns
      have e := upto_all (hown.1.trans (trips_len ps).symm) (fun j hj => hx j (by rw [← trips_len]; exact hj))
      subst e
      exact ⟨_, rfl, hown, hb⟩

def eqRs (ps qs : List (Int × Int × Int)) : Bool := decide (ps = qs)
theorem eqRs_refl (ps : List (Int × Int × Int)) : eqRs ps ps = true := decide_eq_true rfl

set_option maxHeartbeats 800000 in
theorem eqRingS_c (v v' : Value) (ps qs : List (Int × Int × Int)) (w : World) (h : Rd w v ps.length (trips ps)) (h' : Rd w v' qs.length (trips qs)) :
    Calls Try.prog 68 #[v, v'] w (RetB (.bool (eqRs ps qs)) w) := by
  generalize hn : ps.length = n at h
  generalize hm : qs.length = m at h'
  have HN := Lib.hid hn; clear hn
  have HM := Lib.hid hm; clear hm
  obtain ⟨hn, ao, cap, b, off, rfl, hao, hcell⟩ := h.open
  obtain ⟨hn', ao', cap', b', off', rfl, hao', hcell'⟩ := h'.open
  clear h h'
  by_cases hlen : n = m
  · subst hlen
    go_enter Try.func68, Try.ntmps68
    go_wp2_with fail
    go_loopw [5] (fun i wr => ∃ (k : Nat), k ≤ n ∧ i = .int .i64 k ∧ ps.take k = qs.take k ∧ Below w.heap.size w wr)
      (fun i _ => n - (intOf i).toNat)
    case atStart => exact ⟨0, Nat.zero_le _, rfl, rfl, Below.refl _ _⟩
    case round =>
      obtain ⟨k, hk, rfl, hx, hb⟩ := hrel
      have HX := Lib.hid hx; clear hx
      by_cases hlt : k < n
      · have hltp : k < ps.length := by rw [HN.out]; exact hlt
        have hltq : k < qs.length := by rw [HM.out]; exact hlt
        have hix := ix (P := Try.prog) (T := 29) (cap := cap) Try.underlying29 cells_Ring has_Ring hao hlt k rfl
        have hix' := ix (P := Try.prog) (T := 29) (cap := cap') Try.underlying29 cells_Ring has_Ring hao' hlt k rfl
        have hc0 : ∀ s : Lat wr, s.world.cell? ⟨b, off + k * 3, none⟩ = some (.int .i64 ps[k].1) := fun s => hcell _ (hb.trans (s.below.mono hb.size)) _ _ (by omega) (trips_at hltp).1
        have hc1 : ∀ s : Lat wr, s.world.cell? ⟨b, off + k * 3 + 1, none⟩ = some (.int .i64 ps[k].2.1) := fun s => hcell _ (hb.trans (s.below.mono hb.size)) _ _ (by omega) (trips_at hltp).2.1
        have hc2 : ∀ s : Lat wr, s.world.cell? ⟨b, off + k * 3 + 2, none⟩ = some (.int .i64 ps[k].2.2) := fun s => hcell _ (hb.trans (s.below.mono hb.size)) _ _ (by omega) (trips_at hltp).2.2
        have hd0 : ∀ s : Lat wr, s.world.cell? ⟨b', off' + k * 3, none⟩ = some (.int .i64 qs[k].1) := fun s => hcell' _ (hb.trans (s.below.mono hb.size)) _ _ (by omega) (trips_at hltq).1
        have hd1 : ∀ s : Lat wr, s.world.cell? ⟨b', off' + k * 3 + 1, none⟩ = some (.int .i64 qs[k].2.1) := fun s => hcell' _ (hb.trans (s.below.mono hb.size)) _ _ (by omega) (trips_at hltq).2.1
        have hd2 : ∀ s : Lat wr, s.world.cell? ⟨b', off' + k * 3 + 2, none⟩ = some (.int .i64 qs[k].2.2) := fun s => hcell' _ (hb.trans (s.below.mono hb.size)) _ _ (by omega) (trips_at hltq).2.2
        have hp : ps.take k = qs.take k → eqR ps[k] qs[k] = true → ps.take (k + 1) = qs.take (k + 1) := fun h1 h2 => take_step h1 hltp hltq (of_decide_eq_true h2)
        have hq : eqR ps[k] qs[k] = false → eqRs ps qs = false := fun h => by
          refine decide_eq_false fun e => of_decide_eq_false h ?_
          subst e; rfl
        have HP := Lib.hid hp; clear hp
        have HQ := Lib.hid hq; clear hq
        clear hcell hcell'
        generalize ps[k] = p at *
        generalize qs[k] = q at *
        go_wp2_with fail
        refine wp_region_lat (by kernel_rfl) (by kernel_rfl) ?_
        repeat (go_big_quiet_step ((go_at_call 126; exact Lat.callB (eqRing_c _ _ _))))
        refine wpQuiet_nil ?_
        rintro _ ⟨s, rfl⟩
        have hbs := hb.trans (s.below.mono hb.size)
        generalize s.world = ws at *
        clear hc0 hd0 hc1 hd1 hc2 hd2
        cases hpq : eqR p q
        · go_wp2
          go_returns
          exact RetB.mk (bool_eq (HQ.out hpq).symm) hbs
        · go_wp2
          go_roundw
          case rel => exact ⟨k + 1, by omega, by go_num, HP.out HX.out hpq, hbs⟩
          case measure => simp [intOf]; omega
      · obtain rfl : k = n := by omega
        go_wp2
        go_returns
        refine RetB.mk (bool_eq ?_) hb
        have e := HX.out
        rw [List.take_of_length_le (by rw [HN.out]; exact Nat.le_refl _), List.take_of_length_le (by rw [HM.out]; exact Nat.le_refl _)] at e
        exact (decide_eq_true e).symm
  · go_enter Try.func68, Try.ntmps68
    go_wp2
    go_returns
    refine RetB.mk (bool_eq (decide_eq_false ?_).symm) (Below.refl _ _)
    rintro rfl
    exact hlen (HN.out.symm.trans HM.out)

/-- the marks of `n` of them, from `k0` on -/
def mk3 (k0 : Int) (n : Nat) : List (Int × Int × Int) := (List.range n).map fun i : Nat => (k0 + 3 * (i : Int), k0 + 3 * (i : Int) + 1, k0 + 3 * (i : Int) + 2)
theorem mk3_len (k0 : Int) (n : Nat) : (mk3 k0 n).length = n := by simp [mk3]
theorem mk3_get {k0 : Int} {n i : Nat} (h : i < (mk3 k0 n).length) : (mk3 k0 n)[i] = (k0 + 3 * (i : Int), k0 + 3 * (i : Int) + 1, k0 + 3 * (i : Int) + 2) := by simp [mk3]

set_option maxHeartbeats 1600000 in
theorem markRingS_c (v : Value) (n base : Nat) (k0 : Int) (xs0 : List Value) (w : World) (h : w.ownsRow base 52 3 v n xs0) (hk0 : 0 ≤ k0) (hk1 : k0 + 3 * (n : Int) ≤ 9223372036854775800) (hn : n ≤ 1000000000000000000) :
    Calls Try.prog 73 #[v, .int .i64 k0] w (fun e w' => e = .returned (.int .i64 (k0 + 3 * (n : Int))) ∧ w'.ownsRow base 52 3 v n (trips (mk3 k0 n)) ∧ Only (fun b => v.ownBlock = some b) w w') := by
  refine Calls.mono (R := Marked v n (k0 + 3 * (n : Int)) base 52 3 (trips (mk3 k0 n)) w) ?_ (fun e w' h => h)
  obtain ⟨ao, cap, g, hv, hao, hvb⟩ := own_open h
  have HVB := Lib.hid hvb; clear hvb
  subst hv
  go_enter Try.func73, Try.ntmps73
  go_wp2_with fail
  go_loopw [1, 5] (fun q i wr => ∃ (k : Nat) (xs : List Value), k ≤ n ∧ i = .int .i64 k ∧ q = .int .i64 (k0 + 3 * (k : Int)) ∧ wr.ownsRow base 52 3 (.slice ao n cap) n xs ∧ (∀ j, j < k * 3 → xs[j]? = (trips (mk3 k0 n))[j]?) ∧ Only (fun b => (Value.slice ao n cap).ownBlock = some b) w wr)
    (fun _ i _ => n - (intOf i).toNat)
  case atStart => exact ⟨0, xs0, Nat.zero_le _, rfl, by simp, h, fun j hj => by omega, Only.refl _ _⟩
  case round =>
    obtain ⟨k, xs, hk, rfl, rfl, hown, hx, ho⟩ := hrel
    have HX := Lib.hid hx; clear hx
    by_cases hlt : k < n
    · have hix := ix (P := Try.prog) (T := 29) (cap := cap) Try.underlying29 cells_Ring has_Ring hao hlt k rfl
      simp only [Nat.zero_add] at hix
      obtain ⟨⟨u0, c0⟩, f0, _, hs0⟩ := own_cell hown hao (j := k * 3) (by omega)
      obtain ⟨⟨u1, c1⟩, f1, _, hs1⟩ := own_cell hown hao (j := k * 3 + 1) (by omega)
      obtain ⟨⟨u2, c2⟩, f2, _, hs2⟩ := own_cell hown hao (j := k * 3 + 2) (by omega)
      have hl := hown.1
      have HO := Lib.hid ho; clear ho
      have HAO := Lib.hid hao; clear hao
      have HOWN := Lib.hid hown; clear hown
      clear h
      go_wp2
      go_roundw
      case rel =>
        have hao := HAO.out
        have ho := HO.out
        have hvb := HVB.out
        have hm : k < (mk3 k0 n).length := by rw [mk3_len]; exact hlt
        have hat := trips_at hm
        rw [mk3_get hm] at hat
        have o1 := hs0 (.int .i64 (k0 + 3 * (k : Int)))
        have o2 := (own_cell o1 hao (j := k * 3 + 1) (by omega)).2.2.2 (.int .i64 (k0 + 3 * (k : Int) + 1))
        have o3 := (own_cell o2 hao (j := k * 3 + 2) (by omega)).2.2.2 (.int .i64 (k0 + 3 * (k : Int) + 1 + 1))
        exact ⟨k + 1, _, by omega, by go_num, int_eq (by omega), o3, set3_upto HX.out (by omega) hat.1 hat.2.1 (by rw [hat.2.2, show k0 + 3 * (k : Int) + 2 = k0 + 3 * (k : Int) + 1 + 1 by omega]), (((ho.setCell (hvb (by omega)) _).setCell (hvb (by omega)) _).setCell (hvb (by omega)) _)⟩
      case measure => simp [intOf]; omega
    · obtain rfl : k = n := by omega
      go_wp2
      go_returns
      have e := upto_all (hown.1.trans (by rw [trips_len, mk3_len])) (fun j hj => HX.out j (by rw [trips_len, mk3_len] at hj; exact hj))
      subst e
      exact ⟨rfl, hown, ho⟩

set_option maxHeartbeats 1600000 in
theorem heldRingS_c (v : Value) (n : Nat) (k0 : Int) (w : World) (h : Rd w v n (trips (mk3 k0 n))) (hk0 : 0 ≤ k0) (hk1 : k0 + 3 * (n : Int) ≤ 9223372036854775800) :
    Calls Try.prog 81 #[v, .int .i64 k0] w (RetS (.int .i64 (k0 + 3 * (n : Int))) w) := by
  obtain ⟨hn, ao, cap, b, off, rfl, hao, hcell⟩ := h.open
  clear h
  go_enter Try.func81, Try.ntmps81
  go_wp2_with fail
  go_loop [1, 5] (fun q i => ∃ (k : Nat), k ≤ n ∧ i = .int .i64 k ∧ q = .int .i64 (k0 + 3 * (k : Int))) (fun _ i => n - (intOf i).toNat)
  case atStart => exact ⟨0, Nat.zero_le _, rfl, by simp⟩
  case round =>
    obtain ⟨k, hk, rfl, rfl⟩ := hrel
    by_cases hlt : k < n
    · have hix := ix (P := Try.prog) (T := 29) (cap := cap) Try.underlying29 cells_Ring has_Ring hao hlt k rfl
      have hm : k < (mk3 k0 n).length := by rw [mk3_len]; exact hlt
      have hc0 : w.cell? ⟨b, off + k * 3, none⟩ = some (.int .i64 (k0 + 3 * (k : Int))) := by rw [hcell _ (Below.refl _ _) _ _ (by omega) (trips_at hm).1, mk3_get hm]
      have hc1 : w.cell? ⟨b, off + k * 3 + 1, none⟩ = some (.int .i64 (k0 + 3 * (k : Int) + 1)) := by rw [Nat.add_assoc, hcell _ (Below.refl _ _) _ _ (by omega) (trips_at hm).2.1, mk3_get hm]
      have hc2 : w.cell? ⟨b, off + k * 3 + 2, none⟩ = some (.int .i64 (k0 + 3 * (k : Int) + 2)) := by rw [Nat.add_assoc, hcell _ (Below.refl _ _) _ _ (by omega) (trips_at hm).2.2, mk3_get hm]
      clear hcell hm
      go_wp2
      go_round
      case rel => exact ⟨k + 1, by omega, by go_num, int_eq (by omega)⟩
      case measure => simp [intOf]; omega
    · obtain rfl : k = n := by omega
      clear hcell
      go_wp2
      go_returns
      exact RetS.mk rfl

end Go.Proofs.Ytddkjcdnomoglaa
