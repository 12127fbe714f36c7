/- Slices of rings: the law's copy, size, comparison, marks. -/
import Derived.Test.YtjbbhfmojfdcaaaInts
import Derived.Test.YtjbbhfmojfdcaaaMem
import Derived.Test.YtjbbhfmojfdcaaaNums
import Derived.Lib.Hide
namespace Go.Proofs.Ytjbbhfmojfdcaaa
set_option linter.unusedVariables false
open Go.RowKit Go.Proofs.Bell Go.BigFrame

theorem toRing_c (a b c : Int) (w : World) : Calls Try.prog 115 #[.agg #[.int .i64 a, .int .i64 b, .int .i64 c]] w (RetB (.agg #[.int .i64 a, .int .i64 b, .int .i64 c]) w) := by
  go_enter Try.func115, Try.ntmps115
  go_wp2
  go_returns
  refine RetB.mk rfl ?_
  go_grown

def eqR (p q : Int × Int × Int) : Bool := decide (p = q)
theorem eqRing_c (p q : Int × Int × Int) (w : World) : Calls Try.prog 121 #[.agg #[.int .i64 p.1, .int .i64 p.2.1, .int .i64 p.2.2], .agg #[.int .i64 q.1, .int .i64 q.2.1, .int .i64 q.2.2]] w (RetB (.bool (eqR p q)) w) := by
  obtain ⟨a, b, c⟩ := p
  obtain ⟨d, e, f⟩ := q
  by_cases h0 : a = d <;> by_cases h1 : b = e <;> by_cases h2 : c = f <;>
  · go_enter Try.func121, Try.ntmps121
    go_wp2
    go_returns
    refine RetB.mk (bool_eq (by simp [eqR, h0, h1, h2])) ?_
    go_grown

theorem szRingS_c (v : Value) (n : Nat) (xs : List Value) (left : Int) (w : World) (h : Rd w v n xs) (_h1 : 0 ≤ left) (_h2 : left ≤ 9223372036854775807) :
    Calls Try.prog 77 #[v, .int .i64 left] w (RetS (.int .i64 (leftOf left n)) w) := by
  obtain ⟨hn, ao, cap, b, off, rfl, hao, hcell⟩ := h.open
  clear hcell hao h
  by_cases hl : left - n < 0 <;>
  · go_enter Try.func77, Try.ntmps77
    go_wp2
    go_returns
    exact RetS.mk (int_eq (by unfold leftOf; split <;> omega))

theorem info_Ring : (Try.prog.info? 90).map (fun i => (i.zero, i.size, i.bytes)) = some (some (.agg #[.int .i64 0, .int .i64 0, .int .i64 0]), 3, 24) := by kernel_rfl
theorem cells_Ring : Try.prog.cellsOf 90 = 3 := by kernel_rfl
theorem has_Ring : (Try.prog.info? 90).isSome = true := by kernel_rfl
theorem cells_lRing : Try.prog.cellsOf 116 = 3 := by kernel_rfl
theorem has_lRing : (Try.prog.info? 116).isSome = true := by kernel_rfl

/-- a slice of one's own that holds these -/
def OwnR (base : Nat) (w : World) (v : Value) (ps : List (Int × Int × Int)) : Prop := w.ownsRow base 90 3 v ps.length (trips ps)
def RetOwnR (ps : List (Int × Int × Int)) (w : World) (e : Ending) (w' : World) : Prop := ∃ v, e = .returned v ∧ OwnR w.heap.size w' v ps ∧ Below w.heap.size w w'

set_option maxHeartbeats 800000 in
theorem toRingS_c (v : Value) (ps : List (Int × Int × Int)) (w : World) (h : Rd w v ps.length (trips ps)) (hsz : ps.length * 24 ≤ 140737488351232) :
    Calls Try.prog 79 #[v] w (RetOwnR ps w) := by
  obtain ⟨i0, hi, hz0, hz1, hz2⟩ := info_parts info_Ring
  obtain ⟨hn, ao, cap, b, off, rfl, hao, hcell⟩ := h.open
  go_enter Try.func79, Try.ntmps79
  go_wp2_with (at_make; refine wpList_make_full _ rfl _ _ 48 rfl w.heap.size 90 i0 (.agg #[.int .i64 0, .int .i64 0, .int .i64 0]) 3 Try.underlying48 hi hz0 hz1 _ _ _ _ ps.length rfl rfl (by omega) (by omega) ?b2 ?b3 (Nat.le_refl _) ?_)
  case b2 => rw [hz2]; omega
  case b3 => unfold maxLen; omega
  intro w0 hown0 hg0
  have hb0 : Below w.heap.size w w0 := (Below.refl _ _).grown hg0 (Nat.le_refl _) (fun k h => by cases h)
  go_wp2
  go_loopw [4] (fun i wr => ∃ (k : Nat) (xs : List Value), k ≤ ps.length ∧ i = .int .i64 k ∧ wr.ownsRow w.heap.size 90 3 (.slice (some ⟨w.heap.size, 0, none⟩) ps.length ps.length) ps.length xs ∧ (∀ j, j < k * 3 → xs[j]? = (trips ps)[j]?) ∧ Below w.heap.size w wr)
    (fun i _ => ps.length - (intOf i).toNat)
  case atStart => exact ⟨0, _, Nat.zero_le _, rfl, hown0, fun j h => by omega, hb0⟩
  case round =>
    obtain ⟨k, xs, hk, rfl, hown, hx, hb⟩ := hrel
    by_cases hlt : k < ps.length
    · have hix := ix (P := Try.prog) (T := 42) (cap := cap) Try.underlying42 cells_lRing has_lRing hao hlt k rfl
      have hc := trips_at hlt
      have hc0 := hcell _ hb _ _ (by omega) hc.1
      have hc1 := hcell _ hb _ _ (by omega) hc.2.1
      rw [← Nat.add_assoc] at hc1
      have hc2 := hcell _ hb _ _ (by omega) hc.2.2
      rw [← Nat.add_assoc] at hc2
      have HC := Lib.hid hc; clear hc
      have HX := Lib.hid hx; clear hx
      clear hcell
      go_wp2_with (go_at_call 115; refine (toRing_c _ _ _ _).mono ?_; rintro _ w1 ⟨rfl, hb1⟩; have hown1 := own_later hown hb1; have hf0 := hown1.frozenAt (k * 3); have hg0 := hown1.cellAt (k * 3) (by omega); obtain ⟨u0, hu0⟩ : ∃ u, xs[k * 3]? = some u := ⟨_, List.getElem?_eq_getElem (by have := hown1.1; omega)⟩; rw [hu0] at hg0; have hf1 := hown1.frozenAt (k * 3 + 1); have hg1 := hown1.cellAt (k * 3 + 1) (by omega); obtain ⟨u1, hu1⟩ : ∃ u, xs[k * 3 + 1]? = some u := ⟨_, List.getElem?_eq_getElem (by have := hown1.1; omega)⟩; rw [hu1] at hg1; have hf2 := hown1.frozenAt (k * 3 + 2); have hg2 := hown1.cellAt (k * 3 + 2) (by omega); obtain ⟨u2, hu2⟩ : ∃ u, xs[k * 3 + 2]? = some u := ⟨_, List.getElem?_eq_getElem (by have := hown1.1; omega)⟩; rw [hu2] at hg2)
      go_roundw
      case rel =>
        have hl := hown.1
        exact ⟨k + 1, _, by omega, by go_num, ((((own_later hown ‹Below wr.heap.size wr w1›).stored _ _).1.stored _ _).1.stored _ _).1, set3_upto HX.out (by omega) HC.out.1 HC.out.2.1 HC.out.2.2, ((((hb.trans (‹Below wr.heap.size wr w1›.mono hb.size)).setCell (Nat.le_refl _) _).setCell (Nat.le_refl _) _).setCell (Nat.le_refl _) _)⟩
      case measure => simp [intOf]; omega
    · obtain rfl : k = ps.length := by omega
      go_wp2
      go_returns
      have e := upto_all (hown.1.trans (trips_len ps).symm) (fun j hj => hx j (by rw [← trips_len]; exact hj))
      subst e
      exact ⟨_, rfl, hown, hb⟩

def eqRs (ps qs : List (Int × Int × Int)) : Bool := decide (ps = qs)
theorem eqRs_refl (ps : List (Int × Int × Int)) : eqRs ps ps = true := decide_eq_true rfl

set_option maxHeartbeats 800000 in
theorem eqRingS_c (v v' : Value) (ps qs : List (Int × Int × Int)) (w : World) (h : Rd w v ps.length (trips ps)) (h' : Rd w v' qs.length (trips qs)) :
    Calls Try.prog 81 #[v, v'] w (RetB (.bool (eqRs ps qs)) w) := by
  generalize hn : ps.length = n at h
  generalize hm : qs.length = m at h'
  have HN := Lib.hid hn; clear hn
  have HM := Lib.hid hm; clear hm
  obtain ⟨hn, ao, cap, b, off, rfl, hao, hcell⟩ := h.open
  obtain ⟨hn', ao', cap', b', off', rfl, hao', hcell'⟩ := h'.open
  clear h h'
  by_cases hlen : n = m
  · subst hlen
    go_enter Try.func81, Try.ntmps81
    go_wp2_with fail
    go_loopw [5] (fun i wr => ∃ (k : Nat), k ≤ n ∧ i = .int .i64 k ∧ ps.take k = qs.take k ∧ Below w.heap.size w wr)
      (fun i _ => n - (intOf i).toNat)
    case atStart => exact ⟨0, Nat.zero_le _, rfl, rfl, Below.refl _ _⟩
    case round =>
      obtain ⟨k, hk, rfl, hx, hb⟩ := hrel
      have HX := Lib.hid hx; clear hx
      by_cases hlt : k < n
      · have hltp : k < ps.length := by rw [HN.out]; exact hlt
        have hltq : k < qs.length := by rw [HM.out]; exact hlt
        have hix := ix (P := Try.prog) (T := 48) (cap := cap) Try.underlying48 cells_Ring has_Ring hao hlt k rfl
        have hix' := ix (P := Try.prog) (T := 48) (cap := cap') Try.underlying48 cells_Ring has_Ring hao' hlt k rfl
        have hc0 : ∀ s : Lat wr, s.world.cell? ⟨b, off + k * 3, none⟩ = some (.int .i64 ps[k].1) := fun s => hcell _ (hb.trans (s.below.mono hb.size)) _ _ (by omega) (trips_at hltp).1
        have hc1 : ∀ s : Lat wr, s.world.cell? ⟨b, off + k * 3 + 1, none⟩ = some (.int .i64 ps[k].2.1) := fun s => hcell _ (hb.trans (s.below.mono hb.size)) _ _ (by omega) (trips_at hltp).2.1
        have hc2 : ∀ s : Lat wr, s.world.cell? ⟨b, off + k * 3 + 2, none⟩ = some (.int .i64 ps[k].2.2) := fun s => hcell _ (hb.trans (s.below.mono hb.size)) _ _ (by omega) (trips_at hltp).2.2
        have hd0 : ∀ s : Lat wr, s.world.cell? ⟨b', off' + k * 3, none⟩ = some (.int .i64 qs[k].1) := fun s => hcell' _ (hb.trans (s.below.mono hb.size)) _ _ (by omega) (trips_at hltq).1
        have hd1 : ∀ s : Lat wr, s.world.cell? ⟨b', off' + k * 3 + 1, none⟩ = some (.int .i64 qs[k].2.1) := fun s => hcell' _ (hb.trans (s.below.mono hb.size)) _ _ (by omega) (trips_at hltq).2.1
        have hd2 : ∀ s : Lat wr, s.world.cell? ⟨b', off' + k * 3 + 2, none⟩ = some (.int .i64 qs[k].2.2) := fun s => hcell' _ (hb.trans (s.below.mono hb.size)) _ _ (by omega) (trips_at hltq).2.2
        have hp : ps.take k = qs.take k → eqR ps[k] qs[k] = true → ps.take (k + 1) = qs.take (k + 1) := fun h1 h2 => take_step h1 hltp hltq (of_decide_eq_true h2)
        have hq : eqR ps[k] qs[k] = false → eqRs ps qs = false := fun h => by
          refine decide_eq_false fun e => of_decide_eq_false h ?_
          subst e; rfl
        have HP := Lib.hid hp; clear hp
        have HQ := Lib.hid hq; clear hq
        clear hcell hcell'
        generalize ps[k] = p at *
        generalize qs[k] = q at *
        go_wp2_with fail
        refine wp_region_lat (by kernel_rfl) (by kernel_rfl) ?_
        repeat (go_big_quiet_step ((go_at_call 121; exact Lat.callB (eqRing_c _ _ _))))
        refine wpQuiet_nil ?_
        rintro _ ⟨s, rfl⟩
        have hbs := hb.trans (s.below.mono hb.size)
        generalize s.world = ws at *
        clear hc0 hd0 hc1 hd1 hc2 hd2
        cases hpq : eqR p q
        · go_wp2
          go_returns
          exact RetB.mk (bool_eq (HQ.out hpq).symm) hbs
        · go_wp2
          go_roundw
          case rel => exact ⟨k + 1, by omega, by go_num, HP.out HX.out hpq, hbs⟩
          case measure => simp [intOf]; omega
      · obtain rfl : k = n := by omega
        go_wp2
        go_returns
        refine RetB.mk (bool_eq ?_) hb
        have e := HX.out
        rw [List.take_of_length_le (by rw [HN.out]; exact Nat.le_refl _), List.take_of_length_le (by rw [HM.out]; exact Nat.le_refl _)] at e
        exact (decide_eq_true e).symm
  · go_enter Try.func81, Try.ntmps81
    go_wp2
    go_returns
    refine RetB.mk (bool_eq (decide_eq_false ?_).symm) (Below.refl _ _)
    rintro rfl
    exact hlen (HN.out.symm.trans HM.out)

/-- the marks of `n` of them, from `k0` on -/
def mk3 (k0 : Int) (n : Nat) : List (Int × Int × Int) := (List.range n).map fun i : Nat => (k0 + 3 * (i : Int), k0 + 3 * (i : Int) + 1, k0 + 3 * (i : Int) + 2)
theorem mk3_len (k0 : Int) (n : Nat) : (mk3 k0 n).length = n := by simp [mk3]
theorem mk3_get {k0 : Int} {n i : Nat} (h : i < (mk3 k0 n).length) : (mk3 k0 n)[i] = (k0 + 3 * (i : Int), k0 + 3 * (i : Int) + 1, k0 + 3 * (i : Int) + 2) := by simp [mk3]

end Go.Proofs.Ytjbbhfmojfdcaaa
