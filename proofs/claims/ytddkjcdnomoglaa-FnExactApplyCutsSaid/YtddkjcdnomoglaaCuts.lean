/- Slices of cuts: the law's copy, size, comparison, marks. -/
import Derived.Test.YtddkjcdnomoglaaInts
import Derived.Test.YtddkjcdnomoglaaMem
import Derived.Test.YtddkjcdnomoglaaNums
import Derived.Lib.Hide
namespace Go.Proofs.Ytddkjcdnomoglaa
set_option linter.unusedVariables false
open Go.RowKit Go.Proofs.Bell Go.BigFrame

theorem toCut_c (a b : Int) (w : World) : Calls Try.prog 105 #[.agg #[.int .i64 a, .int .i64 b]] w (RetB (.agg #[.int .i64 a, .int .i64 b]) w) := by
  go_enter Try.func105, Try.ntmps105
  go_wp2
  go_returns
  refine RetB.mk rfl ?_
  go_grown

def eqP (p q : Int × Int) : Bool := decide (p = q)
theorem eqCut_c (p q : Int × Int) (w : World) : Calls Try.prog 103 #[.agg #[.int .i64 p.1, .int .i64 p.2], .agg #[.int .i64 q.1, .int .i64 q.2]] w (RetB (.bool (eqP p q)) w) := by
  obtain ⟨a, b⟩ := p
  obtain ⟨d, e⟩ := q
  by_cases h0 : a = d <;> by_cases h1 : b = e <;>
  · go_enter Try.func103, Try.ntmps103
    go_wp2
    go_returns
    refine RetB.mk (bool_eq (by simp [eqP, h0, h1])) ?_
    go_grown

theorem szCutS_c (v : Value) (n : Nat) (xs : List Value) (left : Int) (w : World) (h : Rd w v n xs) (_h1 : 0 ≤ left) (_h2 : left ≤ 9223372036854775807) :
    Calls Try.prog 44 #[v, .int .i64 left] w (RetS (.int .i64 (leftOf left n)) w) := by
  obtain ⟨hn, ao, cap, b, off, rfl, hao, hcell⟩ := h.open
  clear hcell hao h
  by_cases hl : left - n < 0 <;>
  · go_enter Try.func44, Try.ntmps44
    go_wp2
    go_returns
    exact RetS.mk (int_eq (by unfold leftOf; split <;> omega))

theorem info_Cut : (Try.prog.info? 121).map (fun i => (i.zero, i.size, i.bytes)) = some (some (.agg #[.int .i64 0, .int .i64 0]), 2, 16) := by kernel_rfl
theorem cells_Cut : Try.prog.cellsOf 121 = 2 := by kernel_rfl
theorem has_Cut : (Try.prog.info? 121).isSome = true := by kernel_rfl
theorem cells_lCut : Try.prog.cellsOf 124 = 2 := by kernel_rfl
theorem has_lCut : (Try.prog.info? 124).isSome = true := by kernel_rfl

/-- a slice of one's own that holds these -/
def OwnC (base : Nat) (w : World) (v : Value) (ps : List (Int × Int)) : Prop := w.ownsRow base 121 2 v ps.length (pairs ps)
def RetOwnC (ps : List (Int × Int)) (w : World) (e : Ending) (w' : World) : Prop := ∃ v, e = .returned v ∧ OwnC w.heap.size w' v ps ∧ Below w.heap.size w w'

set_option maxHeartbeats 800000 in
theorem toCutS_c (v : Value) (ps : List (Int × Int)) (w : World) (h : Rd w v ps.length (pairs ps)) (hsz : ps.length * 16 ≤ 140737488351232) :
    Calls Try.prog 46 #[v] w (RetOwnC ps w) := by
  obtain ⟨i0, hi, hz0, hz1, hz2⟩ := info_parts info_Cut
  obtain ⟨hn, ao, cap, b, off, rfl, hao, hcell⟩ := h.open
  go_enter Try.func46, Try.ntmps46
  go_wp2_with (at_make; refine wpList_make_full _ rfl _ _ 55 rfl w.heap.size 121 i0 (.agg #[.int .i64 0, .int .i64 0]) 2 Try.underlying55 hi hz0 hz1 _ _ _ _ ps.length rfl rfl (by omega) (by omega) ?b2 ?b3 (Nat.le_refl _) ?_)
  case b2 => rw [hz2]; omega
  case b3 => unfold maxLen; omega
  intro w0 hown0 hg0
  have hb0 : Below w.heap.size w w0 := (Below.refl _ _).grown hg0 (Nat.le_refl _) (fun k h => by cases h)
  go_wp2
  go_loopw [4] (fun i wr => ∃ (k : Nat) (xs : List Value), k ≤ ps.length ∧ i = .int .i64 k ∧ wr.ownsRow w.heap.size 121 2 (.slice (some ⟨w.heap.size, 0, none⟩) ps.length ps.length) ps.length xs ∧ (∀ j, j < k * 2 → xs[j]? = (pairs ps)[j]?) ∧ Below w.heap.size w wr)
    (fun i _ => ps.length - (intOf i).toNat)
  case atStart => exact ⟨0, _, Nat.zero_le _, rfl, hown0, fun j h => by omega, hb0⟩
  case round =>
    obtain ⟨k, xs, hk, rfl, hown, hx, hb⟩ := hrel
    by_cases hlt : k < ps.length
    · have hix := ix (P := Try.prog) (T := 61) (cap := cap) Try.underlying61 cells_lCut has_lCut hao hlt k rfl
      have hc := pairs_at hlt
      have hc0 := hcell _ hb _ _ (by omega) hc.1
      have hc1 := hcell _ hb _ _ (by omega) hc.2
      rw [← Nat.add_assoc] at hc1
      have HC := Lib.hid hc; clear hc
      have HX := Lib.hid hx; clear hx
      clear hcell
      go_wp2_with (go_at_call 105; refine (toCut_c _ _ _).mono ?_; rintro _ w1 ⟨rfl, hb1⟩; have hown1 := own_later hown hb1; have hf0 := hown1.frozenAt (k * 2); have hg0 := hown1.cellAt (k * 2) (by omega); obtain ⟨u0, hu0⟩ : ∃ u, xs[k * 2]? = some u := ⟨_, List.getElem?_eq_getElem (by have := hown1.1; omega)⟩; rw [hu0] at hg0; have hf1 := hown1.frozenAt (k * 2 + 1); have hg1 := hown1.cellAt (k * 2 + 1) (by omega); obtain ⟨u1, hu1⟩ : ∃ u, xs[k * 2 + 1]? = some u := ⟨_, List.getElem?_eq_getElem (by have := hown1.1; omega)⟩; rw [hu1] at hg1)
      go_roundw
      case rel =>
        have hl := hown.1
        exact ⟨k + 1, _, by omega, by go_num, (((own_later hown ‹Below wr.heap.size wr w1›).stored _ _).1.stored _ _).1, set2_upto HX.out (by omega) HC.out.1 HC.out.2, (((hb.trans (‹Below wr.heap.size wr w1›.mono hb.size)).setCell (Nat.le_refl _) _).setCell (Nat.le_refl _) _)⟩
      case measure => simp [intOf]; omega
    · obtain rfl : k = ps.length := by omega
      go_wp2
      go_returns
      have e := upto_all (hown.1.trans (pairs_len ps).symm) (fun j hj => hx j (by rw [← pairs_len]; exact hj))
      subst e
      exact ⟨_, rfl, hown, hb⟩

def eqPs (ps qs : List (Int × Int)) : Bool := decide (ps = qs)
theorem eqPs_refl (ps : List (Int × Int)) : eqPs ps ps = true := decide_eq_true rfl

set_option maxHeartbeats 800000 in
theorem eqCutS_c (v v' : Value) (ps qs : List (Int × Int)) (w : World) (h : Rd w v ps.length (pairs ps)) (h' : Rd w v' qs.length (pairs qs)) :
    Calls Try.prog 41 #[v, v'] w (RetB (.bool (eqPs ps qs)) w) := by
  generalize hn : ps.length = n at h
  generalize hm : qs.length = m at h'
  have HN := Lib.hid hn; clear hn
  have HM := Lib.hid hm; clear hm
  obtain ⟨hn, ao, cap, b, off, rfl, hao, hcell⟩ := h.open
  obtain ⟨hn', ao', cap', b', off', rfl, hao', hcell'⟩ := h'.open
  clear h h'
  by_cases hlen : n = m
  · subst hlen
    go_enter Try.func41, Try.ntmps41
    go_wp2_with fail
    go_loopw [5] (fun i wr => ∃ (k : Nat), k ≤ n ∧ i = .int .i64 k ∧ ps.take k = qs.take k ∧ Below w.heap.size w wr)
      (fun i _ => n - (intOf i).toNat)
    case atStart => exact ⟨0, Nat.zero_le _, rfl, rfl, Below.refl _ _⟩
    case round =>
      obtain ⟨k, hk, rfl, hx, hb⟩ := hrel
      have HX := Lib.hid hx; clear hx
      by_cases hlt : k < n
      · have hltp : k < ps.length := by rw [HN.out]; exact hlt
        have hltq : k < qs.length := by rw [HM.out]; exact hlt
        have hix := ix (P := Try.prog) (T := 55) (cap := cap) Try.underlying55 cells_Cut has_Cut hao hlt k rfl
        have hix' := ix (P := Try.prog) (T := 55) (cap := cap') Try.underlying55 cells_Cut has_Cut hao' hlt k rfl
        have hc0 : ∀ s : Lat wr, s.world.cell? ⟨b, off + k * 2, none⟩ = some (.int .i64 ps[k].1) := fun s => hcell _ (hb.trans (s.below.mono hb.size)) _ _ (by omega) (pairs_at hltp).1
        have hc1 : ∀ s : Lat wr, s.world.cell? ⟨b, off + k * 2 + 1, none⟩ = some (.int .i64 ps[k].2) := fun s => hcell _ (hb.trans (s.below.mono hb.size)) _ _ (by omega) (pairs_at hltp).2
        have hd0 : ∀ s : Lat wr, s.world.cell? ⟨b', off' + k * 2, none⟩ = some (.int .i64 qs[k].1) := fun s => hcell' _ (hb.trans (s.below.mono hb.size)) _ _ (by omega) (pairs_at hltq).1
        have hd1 : ∀ s : Lat wr, s.world.cell? ⟨b', off' + k * 2 + 1, none⟩ = some (.int .i64 qs[k].2) := fun s => hcell' _ (hb.trans (s.below.mono hb.size)) _ _ (by omega) (pairs_at hltq).2
        have hp : ps.take k = qs.take k → eqP ps[k] qs[k] = true → ps.take (k + 1) = qs.take (k + 1) := fun h1 h2 => take_step h1 hltp hltq (of_decide_eq_true h2)
        have hq : eqP ps[k] qs[k] = false → eqPs ps qs = false := fun h => by
          refine decide_eq_false fun e => of_decide_eq_false h ?_
          subst e; rfl
        have HP := Lib.hid hp; clear hp
        have HQ := Lib.hid hq; clear hq
        clear hcell hcell'
        generalize ps[k] = p at *
        generalize qs[k] = q at *
        go_wp2_with fail
        refine wp_region_lat (by kernel_rfl) (by kernel_rfl) ?_
        repeat (go_big_quiet_step ((go_at_call 103; exact Lat.callB (eqCut_c _ _ _))))
        refine wpQuiet_nil ?_
        rintro _ ⟨s, rfl⟩
        have hbs := hb.trans (s.below.mono hb.size)
        generalize s.world = ws at *
        clear hc0 hd0 hc1 hd1
        cases hpq : eqP p q
        · go_wp2
          go_returns
          exact RetB.mk (bool_eq (HQ.out hpq).symm) hbs
        · go_wp2
          go_roundw
          case rel => exact ⟨k + 1, by omega, by go_num, HP.out HX.out hpq, hbs⟩
          case measure => simp [intOf]; omega
      · obtain rfl : k = n := by omega
        go_wp2
        go_returns
        refine RetB.mk (bool_eq ?_) hb
        have e := HX.out
        rw [List.take_of_length_le (by rw [HN.out]; exact Nat.le_refl _), List.take_of_length_le (by rw [HM.out]; exact Nat.le_refl _)] at e
        exact (decide_eq_true e).symm
  · go_enter Try.func41, Try.ntmps41
    go_wp2
    go_returns
    refine RetB.mk (bool_eq (decide_eq_false ?_).symm) (Below.refl _ _)
    rintro rfl
    exact hlen (HN.out.symm.trans HM.out)

/-- the marks of `n` of them, from `k0` on -/
def mk2 (k0 : Int) (n : Nat) : List (Int × Int) := (List.range n).map fun i : Nat => (k0 + 2 * (i : Int), k0 + 2 * (i : Int) + 1)
theorem mk2_len (k0 : Int) (n : Nat) : (mk2 k0 n).length = n := by simp [mk2]
theorem mk2_get {k0 : Int} {n i : Nat} (h : i < (mk2 k0 n).length) : (mk2 k0 n)[i] = (k0 + 2 * (i : Int), k0 + 2 * (i : Int) + 1) := by simp [mk2]

set_option maxHeartbeats 1600000 in
theorem markCutS_c (v : Value) (n base : Nat) (k0 : Int) (xs0 : List Value) (w : World) (h : w.ownsRow base 121 2 v n xs0) (hk0 : 0 ≤ k0) (hk1 : k0 + 2 * (n : Int) ≤ 9223372036854775800) (hn : n ≤ 1000000000000000000) :
    Calls Try.prog 42 #[v, .int .i64 k0] w (fun e w' => e = .returned (.int .i64 (k0 + 2 * (n : Int))) ∧ w'.ownsRow base 121 2 v n (pairs (mk2 k0 n)) ∧ Only (fun b => v.ownBlock = some b) w w') := by
  refine Calls.mono (R := Marked v n (k0 + 2 * (n : Int)) base 121 2 (pairs (mk2 k0 n)) w) ?_ (fun e w' h => h)
  obtain ⟨ao, cap, g, hv, hao, hvb⟩ := own_open h
  have HVB := Lib.hid hvb; clear hvb
  subst hv
  go_enter Try.func42, Try.ntmps42
  go_wp2_with fail
  go_loopw [1, 5] (fun q i wr => ∃ (k : Nat) (xs : List Value), k ≤ n ∧ i = .int .i64 k ∧ q = .int .i64 (k0 + 2 * (k : Int)) ∧ wr.ownsRow base 121 2 (.slice ao n cap) n xs ∧ (∀ j, j < k * 2 → xs[j]? = (pairs (mk2 k0 n))[j]?) ∧ Only (fun b => (Value.slice ao n cap).ownBlock = some b) w wr)
    (fun _ i _ => n - (intOf i).toNat)
  case atStart => exact ⟨0, xs0, Nat.zero_le _, rfl, by simp, h, fun j hj => by omega, Only.refl _ _⟩
  case round =>
    obtain ⟨k, xs, hk, rfl, rfl, hown, hx, ho⟩ := hrel
    have HX := Lib.hid hx; clear hx
    by_cases hlt : k < n
    · have hix := ix (P := Try.prog) (T := 55) (cap := cap) Try.underlying55 cells_Cut has_Cut hao hlt k rfl
      simp only [Nat.zero_add] at hix
      obtain ⟨⟨u0, c0⟩, f0, _, hs0⟩ := own_cell hown hao (j := k * 2) (by omega)
      obtain ⟨⟨u1, c1⟩, f1, _, hs1⟩ := own_cell hown hao (j := k * 2 + 1) (by omega)
      have hl := hown.1
      have HO := Lib.hid ho; clear ho
      have HAO := Lib.hid hao; clear hao
      have HOWN := Lib.hid hown; clear hown
      clear h
      go_wp2
      go_roundw
      case rel =>
        have hao := HAO.out
        have ho := HO.out
        have hvb := HVB.out
        have hm : k < (mk2 k0 n).length := by rw [mk2_len]; exact hlt
        have hat := pairs_at hm
        rw [mk2_get hm] at hat
        have o1 := hs0 (.int .i64 (k0 + 2 * (k : Int)))
        have o2 := (own_cell o1 hao (j := k * 2 + 1) (by omega)).2.2.2 (.int .i64 (k0 + 2 * (k : Int) + 1))
        exact ⟨k + 1, _, by omega, by go_num, int_eq (by omega), o2, set2_upto HX.out (by omega) hat.1 hat.2, ((ho.setCell (hvb (by omega)) _).setCell (hvb (by omega)) _)⟩
      case measure => simp [intOf]; omega
    · obtain rfl : k = n := by omega
      go_wp2
      go_returns
      have e := upto_all (hown.1.trans (by rw [pairs_len, mk2_len])) (fun j hj => HX.out j (by rw [pairs_len, mk2_len] at hj; exact hj))
      subst e
      exact ⟨rfl, hown, ho⟩

set_option maxHeartbeats 1600000 in
theorem heldCutS_c (v : Value) (n : Nat) (k0 : Int) (w : World) (h : Rd w v n (pairs (mk2 k0 n))) (hk0 : 0 ≤ k0) (hk1 : k0 + 2 * (n : Int) ≤ 9223372036854775800) :
    Calls Try.prog 43 #[v, .int .i64 k0] w (RetS (.int .i64 (k0 + 2 * (n : Int))) w) := by
  obtain ⟨hn, ao, cap, b, off, rfl, hao, hcell⟩ := h.open
  clear h
  go_enter Try.func43, Try.ntmps43
  go_wp2_with fail
  go_loop [1, 5] (fun q i => ∃ (k : Nat), k ≤ n ∧ i = .int .i64 k ∧ q = .int .i64 (k0 + 2 * (k : Int))) (fun _ i => n - (intOf i).toNat)
  case atStart => exact ⟨0, Nat.zero_le _, rfl, by simp⟩
  case round =>
    obtain ⟨k, hk, rfl, rfl⟩ := hrel
    by_cases hlt : k < n
    · have hix := ix (P := Try.prog) (T := 55) (cap := cap) Try.underlying55 cells_Cut has_Cut hao hlt k rfl
      have hm : k < (mk2 k0 n).length := by rw [mk2_len]; exact hlt
      have hc0 : w.cell? ⟨b, off + k * 2, none⟩ = some (.int .i64 (k0 + 2 * (k : Int))) := by rw [hcell _ (Below.refl _ _) _ _ (by omega) (pairs_at hm).1, mk2_get hm]
      have hc1 : w.cell? ⟨b, off + k * 2 + 1, none⟩ = some (.int .i64 (k0 + 2 * (k : Int) + 1)) := by rw [Nat.add_assoc, hcell _ (Below.refl _ _) _ _ (by omega) (pairs_at hm).2, mk2_get hm]
      clear hcell hm
      go_wp2
      go_round
      case rel => exact ⟨k + 1, by omega, by go_num, int_eq (by omega)⟩
      case measure => simp [intOf]; omega
    · obtain rfl : k = n := by omega
      clear hcell
      go_wp2
      go_returns
      exact RetS.mk rfl

end Go.Proofs.Ytddkjcdnomoglaa
