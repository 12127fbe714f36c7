/- Slices of numbers: one's own; the sum; the law's copy, comparison, marks. -/
import Derived.Test.YtddkjcdnomoglaaInts
import Derived.Test.YtddkjcdnomoglaaMem
import Derived.Lib.Hide
namespace Go.Proofs.Ytddkjcdnomoglaa
set_option linter.unusedVariables false
open Go.RowKit Go.Proofs.Bell Go.BigFrame

def OwnI (base : Nat) (w : World) (v : Value) (zs : List Int) : Prop := w.ownsRow base 2 1 v zs.length (ints zs)
def RetOwnI (zs : List Int) (w : World) (e : Ending) (w' : World) : Prop := ∃ v, e = .returned v ∧ OwnI w.heap.size w' v zs ∧ Below w.heap.size w w'
theorem info_int64 : (Try.prog.info? 2).map (fun i => (i.zero, i.size, i.bytes)) = some (some (.int .i64 0), 1, 8) := by kernel_rfl
theorem cells_int64 : Try.prog.cellsOf 2 = 1 := by kernel_rfl
theorem has_int64 : (Try.prog.info? 2).isSome = true := by kernel_rfl

/-- the sums of the heads of a list lie within bounds -/
def Sums (lo hi : Int) (zs : List Int) : Prop := ∀ k, lo ≤ (zs.take k).sum ∧ (zs.take k).sum ≤ hi
theorem sum_bd {lo hi : Int} : ∀ (zs : List Int), (∀ x ∈ zs, lo ≤ x ∧ x ≤ hi) → lo * zs.length ≤ zs.sum ∧ zs.sum ≤ hi * zs.length
  | [], _ => by simp
  | z :: zs, h => by
    have h1 := h z (List.mem_cons_self ..)
    have h2 := sum_bd zs (fun x hx => h x (List.mem_cons_of_mem _ hx))
    simp only [List.sum_cons, List.length_cons, Int.natCast_add, Int.mul_add]
    omega
theorem sums_of {M : Int} {zs : List Int} (n : Nat) (hM : 0 ≤ M) (hl : zs.length ≤ n) (h : ∀ x ∈ zs, 0 ≤ x ∧ x ≤ M) : Sums 0 (M * n) zs := by
  intro k
  have h1 := sum_bd (zs.take k) (fun x hx => h x (List.mem_of_mem_take hx))
  have h2 : M * (zs.take k).length ≤ M * n := Int.mul_le_mul_of_nonneg_left (by rw [List.length_take]; omega) hM
  omega
theorem Sums.wide {lo hi lo' hi' : Int} {zs : List Int} (h : Sums lo hi zs) (h1 : lo' ≤ lo) (h2 : hi ≤ hi') : Sums lo' hi' zs := fun k => by have := h k; omega

theorem take_step {α : Type} {xs ys : List α} {k : Nat} (h : xs.take k = ys.take k) (h1 : k < xs.length) (h2 : k < ys.length) (h3 : xs[k] = ys[k]) : xs.take (k + 1) = ys.take (k + 1) := by
  rw [List.take_succ_eq_append_getElem h1, List.take_succ_eq_append_getElem h2, h, h3]

/-- what a mark leaves: the count, the marked row, all else as it was -/
def Marked (v : Value) (n : Nat) (r : Int) (base : Nat) (E : TypeId) (sz : Nat) (xs : List Value) (w : World) (e : Ending) (w' : World) : Prop :=
  e = .returned (.int .i64 r) ∧ w'.ownsRow base E sz v n xs ∧ Only (fun b => v.ownBlock = some b) w w'

def leftOf (left : Int) (n : Nat) : Int := if left - n < 0 then -1 else left - n
theorem leftOf_neg {left : Int} {n : Nat} (h : left < n) : leftOf left n = -1 := by unfold leftOf; rw [if_pos (by omega)]
theorem leftOf_pos {left : Int} {n : Nat} (h : (n : Int) ≤ left) : leftOf left n = left - n := by unfold leftOf; rw [if_neg (by omega)]

set_option maxHeartbeats 800000 in
theorem toInt64S_c (v : Value) (zs : List Int) (w : World) (h : Rd w v zs.length (ints zs)) (hsz : zs.length * 8 ≤ 140737488351232) :
    Calls Try.prog 18 #[v] w (RetOwnI zs w) := by
  obtain ⟨i0, hi, hz0, hz1, hz2⟩ := info_parts info_int64
  obtain ⟨hn, ao, cap, b, off, rfl, hao, hcell⟩ := h.open
  go_enter Try.func18, Try.ntmps18
  go_wp2_with (at_make; refine wpList_make_full _ rfl _ _ 25 rfl w.heap.size 2 i0 (.int .i64 0) 1 Try.underlying25 hi hz0 hz1 _ _ _ _ zs.length rfl rfl (by omega) (by omega) ?b2 ?b3 (Nat.le_refl _) ?_)
  case b2 => rw [hz2]; omega
  case b3 => unfold maxLen; omega
  intro w0 hown0 hg0
  have hb0 : Below w.heap.size w w0 := (Below.refl _ _).grown hg0 (Nat.le_refl _) (fun k h => by cases h)
  go_wp2
  go_loopw [4] (fun i wr => ∃ (k : Nat) (xs : List Value), k ≤ zs.length ∧ i = .int .i64 k ∧ wr.ownsRow w.heap.size 2 1 (.slice (some ⟨w.heap.size, 0, none⟩) zs.length zs.length) zs.length xs ∧ (∀ j, j < k → xs[j]? = (ints zs)[j]?) ∧ Below w.heap.size w wr)
    (fun i _ => zs.length - (intOf i).toNat)
  case atStart => exact ⟨0, _, Nat.zero_le _, rfl, hown0, fun j h => by omega, hb0⟩
  case round =>
    obtain ⟨k, xs, hk, rfl, hown, hx, hb⟩ := hrel
    by_cases hlt : k < zs.length
    · have hix := ix (P := Try.prog) (T := 25) (cap := cap) Try.underlying25 cells_int64 has_int64 hao hlt k rfl
      rw [Nat.mul_one] at hix
      have hc := intsAt hlt
      have hc1 := hcell _ hb _ _ (by omega) hc
      have HC := Lib.hid hc; clear hc
      have HX := Lib.hid hx; clear hx
      clear hcell
      have hf1 := hown.frozenAt k
      have hg1 := hown.cellAt k (by omega)
      obtain ⟨u1, hu1⟩ : ∃ u, xs[k]? = some u := ⟨_, List.getElem?_eq_getElem (by have := hown.1; omega)⟩
      rw [hu1] at hg1
      generalize zs[k] = z at *
      go_wp2
      go_roundw
      case rel =>
        have hl := hown.1
        exact ⟨k + 1, _, by omega, by go_num, (hown.stored _ _).1, set1_upto HX.out (by omega) HC.out, hb.setCell (Nat.le_refl _) _⟩
      case measure => simp [intOf]; omega
    · obtain rfl : k = zs.length := by omega
      go_wp2
      go_returns
      have e := upto_all (hown.1.trans (by rw [ints_len, Nat.mul_one])) (fun j hj => hx j (by rw [← ints_len]; exact hj))
      subst e
      exact ⟨_, rfl, hown, hb⟩

def eqZs (xs ys : List Int) : Bool := decide (xs = ys)
theorem eqZs_refl (xs : List Int) : eqZs xs xs = true := decide_eq_true rfl

set_option maxHeartbeats 800000 in
theorem eqInt64S_c (v v' : Value) (ps qs : List Int) (w : World) (h : Rd w v ps.length (ints ps)) (h' : Rd w v' qs.length (ints qs)) :
    Calls Try.prog 21 #[v, v'] w (RetD (.bool (eqZs ps qs)) w) := by
  generalize hn : ps.length = n at h
  generalize hm : qs.length = m at h'
  have HN := Lib.hid hn; clear hn
  have HM := Lib.hid hm; clear hm
  obtain ⟨hn, ao, cap, b, off, rfl, hao, hcell⟩ := h.open
  obtain ⟨hn', ao', cap', b', off', rfl, hao', hcell'⟩ := h'.open
  clear h h'
  by_cases hlen : n = m
  · subst hlen
    go_enter Try.func21, Try.ntmps21
    go_wp2_with fail
    go_loopw [5] (fun i wr => ∃ (k : Nat), k ≤ n ∧ i = .int .i64 k ∧ ps.take k = qs.take k ∧ Dr w wr)
      (fun i _ => n - (intOf i).toNat)
    case atStart => exact ⟨0, Nat.zero_le _, rfl, rfl, Dr.refl _⟩
    case round =>
      obtain ⟨k, hk, rfl, hx, hd⟩ := hrel
      have hb := hd.below
      have HX := Lib.hid hx; clear hx
      by_cases hlt : k < n
      · have hltp : k < ps.length := by rw [HN.out]; exact hlt
        have hltq : k < qs.length := by rw [HM.out]; exact hlt
        have hix := ix (P := Try.prog) (T := 25) (cap := cap) Try.underlying25 cells_int64 has_int64 hao hlt k rfl
        have hix' := ix (P := Try.prog) (T := 25) (cap := cap') Try.underlying25 cells_int64 has_int64 hao' hlt k rfl
        rw [Nat.mul_one] at hix hix'
        have hc1 : wr.cell? ⟨b, off + k, none⟩ = some (.int .i64 ps[k]) := hcell _ hb _ _ (by omega) (intsAt hltp)
        have hd1 : wr.cell? ⟨b', off' + k, none⟩ = some (.int .i64 qs[k]) := hcell' _ hb _ _ (by omega) (intsAt hltq)
        have hp : ps.take k = qs.take k → ps[k] = qs[k] → ps.take (k + 1) = qs.take (k + 1) := fun h1 h2 => take_step h1 hltp hltq h2
        have hq : ps[k] ≠ qs[k] → eqZs ps qs = false := fun h => by
          refine decide_eq_false fun e => h ?_
          subst e; rfl
        have HP := Lib.hid hp; clear hp
        have HQ := Lib.hid hq; clear hq
        clear hcell hcell'
        generalize ps[k] = p at *
        generalize qs[k] = q at *
        go_wp2_with fail
        go_quiet (fail)
        clear hc1 hd1
        by_cases hpq : p = q
        · subst hpq
          go_wp2
          go_roundw
          case rel => exact ⟨k + 1, by omega, by go_num, HP.out HX.out rfl, (by first | exact Dr.refl _ | exact Dr.next (by assumption) _ | assumption | exact ⟨_, rfl⟩ | exact ⟨_, World.drewN_drewN _ _ _⟩)⟩
          case measure => simp [intOf]; omega
        · go_wp2
          go_returns
          exact RetD.mk (bool_eq (HQ.out hpq).symm) (by first | exact Dr.refl _ | exact Dr.next (by assumption) _ | assumption | exact ⟨_, rfl⟩ | exact ⟨_, World.drewN_drewN _ _ _⟩)
      · obtain rfl : k = n := by omega
        go_wp2
        go_returns
        refine RetD.mk (bool_eq ?_) (by first | exact Dr.refl _ | exact Dr.next (by assumption) _ | assumption | exact ⟨_, rfl⟩ | exact ⟨_, World.drewN_drewN _ _ _⟩)
        have e := HX.out
        rw [List.take_of_length_le (by rw [HN.out]; exact Nat.le_refl _), List.take_of_length_le (by rw [HM.out]; exact Nat.le_refl _)] at e
        exact (decide_eq_true e).symm
  · go_enter Try.func21, Try.ntmps21
    go_wp2
    go_returns
    refine RetD.mk (bool_eq (decide_eq_false ?_).symm) (Dr.refl _)
    rintro rfl
    exact hlen (HN.out.symm.trans HM.out)

end Go.Proofs.Ytddkjcdnomoglaa
