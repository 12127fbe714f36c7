/- Profiles: the law's copy, size, comparison. -/
import Derived.Test.YtddkjcdnomoglaaRings
namespace Go.Proofs.Ytddkjcdnomoglaa
set_option linter.unusedVariables false
open Go.RowKit Go.Proofs.Bell Go.BigFrame

/-- a profile of one's own -/
def RetOwnP (nm : ByteArray) (rs : List (Int × Int × Int)) (w : World) (e : Ending) (w' : World) : Prop :=
  ∃ sv, e = .returned (.agg #[.string nm, sv]) ∧ OwnR w.heap.size w' sv rs ∧ Below w.heap.size w w'

set_option maxHeartbeats 800000 in
theorem toProfile_c (nm : ByteArray) (sv : Value) (rs : List (Int × Int × Int)) (w : World) (h : Rd w sv rs.length (trips rs)) (hsz : rs.length * 24 ≤ 140737488351232) :
    Calls Try.prog 17 #[.agg #[.string nm, sv]] w (RetOwnP nm rs w) := by
  have ht : ∀ w', Below w.heap.size w w' → Calls Try.prog 63 #[sv] w' (RetOwnR rs w') := fun w' hb => toRingS_c sv rs w' (h.later hb) hsz
  have HT := Lib.hid ht; clear ht
  obtain ⟨hn, ao, cap, b, off, rfl, hao, hcell⟩ := h.open
  clear h hao hcell
  go_enter Try.func17, Try.ntmps17
  go_wp2_with fail
  refine (HT.out _ (by go_grown)).mono ?_
  rintro _ w1 ⟨v1, rfl, hown, hb⟩
  have hs := hb.size
  simp only [World.size_alloc] at hs
  obtain ⟨ao1, cap1, g1, rfl, _, _⟩ := own_open hown
  have k0 := below_cell hb (p := ⟨w.heap.size + 1, 0, none⟩) (v := .string ⟨#[]⟩) (by simp [go_sem])
  have k1 := below_cell hb (p := ⟨w.heap.size + 1, 1, none⟩) (v := .slice none 0 0) (by simp [go_sem])
  have k2 := below_cell hb (p := ⟨w.heap.size + 1 + 1, 0, none⟩) (v := .string nm) (by simp [go_sem])
  have k3 := below_cell hb (p := ⟨w.heap.size + 1 + 1, 1, none⟩) (v := .slice none 0 0) (by simp [go_sem])
  have f0 : w1.frozen? ⟨w.heap.size + 1, 0, none⟩ = false := (hb.frozen (p := ⟨w.heap.size + 1, 0, none⟩) (by simp [go_sem])).trans (by simp [go_sem])
  have f1 : w1.frozen? ⟨w.heap.size + 1, 1, none⟩ = false := (hb.frozen (p := ⟨w.heap.size + 1, 1, none⟩) (by simp [go_sem])).trans (by simp [go_sem])
  have f3 : w1.frozen? ⟨w.heap.size + 1 + 1, 1, none⟩ = false := (hb.frozen (p := ⟨w.heap.size + 1 + 1, 1, none⟩) (by simp [go_sem])).trans (by simp [go_sem])
  have hb3 : Below w.heap.size w w1 := Below.trans (by go_grown) (hb.mono (by simp; omega))
  clear hb
  have hown' : OwnR (w.heap.size + 3) w1 (.slice ao1 rs.length cap1) rs := own_base hown (by simp)
  have HO := Lib.hid hown'; clear hown'
  clear hown
  go_wp2
  refine bodyPost_ret (v := .agg #[.string nm, .slice ao1 rs.length cap1]) (by simp [results, Try.results17, go_sem, k0, k1, k2, k3]) rfl ?_
  refine ⟨_, rfl, own_base (ownsRow_setCell_below (ownsRow_setCell_below (ownsRow_setCell_below HO.out ?_ _) ?_ _) ?_ _) (by omega), (((hb3.setCell ?_ _).setCell ?_ _).setCell ?_ _)⟩
  all_goals (simp; try omega)

def eqNm (a b : ByteArray) : Bool := decide (a = b)
def eqPr (a b : ByteArray) (rs qs : List (Int × Int × Int)) : Bool := eqNm a b && eqRs rs qs

set_option maxHeartbeats 800000 in
theorem eqProfile_c (a b : ByteArray) (sv sv' : Value) (rs qs : List (Int × Int × Int)) (w : World) (h : Rd w sv rs.length (trips rs)) (h' : Rd w sv' qs.length (trips qs)) :
    Calls Try.prog 20 #[.agg #[.string a, sv], .agg #[.string b, sv']] w (RetB (.bool (eqPr a b rs qs)) w) := by
  have ht : ∀ w', Below w.heap.size w w' → Calls Try.prog 68 #[sv, sv'] w' (RetB (.bool (eqRs rs qs)) w') := fun w' hb => eqRingS_c sv sv' rs qs w' (h.later hb) (h'.later hb)
  have HT := Lib.hid ht; clear ht
  obtain ⟨hn, ao, cap, b1, off, rfl, hao, hcell⟩ := h.open
  obtain ⟨hn', ao', cap', b1', off', rfl, hao', hcell'⟩ := h'.open
  clear h hao hcell h' hao' hcell'
  by_cases hnm : a = b
  · subst hnm
    cases hq : eqRs rs qs <;>
    · rw [hq] at HT
      go_enter Try.func20, Try.ntmps20
      go_wp2_with (go_at_call 68; refine (HT.out _ (by go_grown)).mono ?_; rintro _ w1 ⟨rfl, hb⟩)
      go_returns
      exact RetB.mk (bool_eq (by simp [eqPr, eqNm, hq])) (Below.trans (by go_grown) (hb.mono (by simp; omega)))
  · have hnb := name_ne hnm
    have hne : eqPr a b rs qs = false := by simp [eqPr, eqNm, hnm]
    have HNE := Lib.hid hne; clear hne
    clear hnm
    go_enter Try.func20, Try.ntmps20
    go_wp2
    go_returns
    exact RetB.mk (bool_eq HNE.out.symm) (by go_grown)

def leftP (left : Int) (n m : Nat) : Int := if left - n < 0 then -1 else leftOf (left - n) m
theorem leftP_pos {left : Int} {n m : Nat} (h : (n : Int) + m ≤ left) : leftP left n m = left - n - m := by
  unfold leftP leftOf; rw [if_neg (by omega), if_neg (by omega)]
theorem leftP_neg {left : Int} {n m : Nat} (h : left < (n : Int) + m) : leftP left n m = -1 := by
  unfold leftP leftOf; split
  · rfl
  · rw [if_pos (by omega)]

theorem szProfile_c (nm : ByteArray) (sv : Value) (n : Nat) (xs : List Value) (left : Int) (w : World) (hnm : nm.size ≤ maxLen) (h : Rd w sv n xs) (h1 : 0 ≤ left) (h2 : left ≤ 9223372036854775807) :
    Calls Try.prog 15 #[.agg #[.string nm, sv], .int .i64 left] w (RetB (.int .i64 (leftP left nm.size n)) w) := by
  unfold maxLen at hnm
  have ht : ∀ l w', 0 ≤ l → l ≤ 9223372036854775807 → Below w.heap.size w w' → Calls Try.prog 59 #[sv, .int .i64 l] w' (RetS (.int .i64 (leftOf l n)) w') := fun l w' q1 q2 hb => szRingS_c sv n xs l w' (h.later hb) q1 q2
  have HT := Lib.hid ht; clear ht
  obtain ⟨hn, ao, cap, b, off, rfl, hao, hcell⟩ := h.open
  clear h hao hcell
  by_cases hl : left - nm.size < 0
  · have he : leftP left nm.size n = -1 := by unfold leftP; rw [if_pos hl]
    rw [he]
    clear he
    go_enter Try.func15, Try.ntmps15
    go_wp2
    go_returns
    exact RetB.mk rfl (by go_grown)
  · have he : leftP left nm.size n = leftOf (left - nm.size) n := by unfold leftP; rw [if_neg hl]
    rw [he]
    clear he
    by_cases hl2 : leftOf (left - nm.size) n < 0
    · have e1 : leftOf (left - nm.size) n = -1 := by unfold leftOf at hl2 ⊢; split <;> omega
      have HT2 := HT.out (left - nm.size)
      rw [e1] at HT2 ⊢
      have HT3 := Lib.hid HT2; clear HT2
      clear e1 hl2
      go_enter Try.func15, Try.ntmps15
      go_wp2_with (go_at_call 59; refine (HT3.out _ (by omega) (by omega) (by go_grown)).mono ?_; rintro _ _ ⟨rfl, rfl⟩)
      go_returns
      exact RetB.mk rfl (by go_grown)
    · generalize hq : leftOf (left - nm.size) n = q at *
      have HT2 := HT.out (left - nm.size)
      rw [hq] at HT2
      have HT3 := Lib.hid HT2; clear HT2
      clear hq
      go_enter Try.func15, Try.ntmps15
      go_wp2_with (go_at_call 59; refine (HT3.out _ (by omega) (by omega) (by go_grown)).mono ?_; rintro _ _ ⟨rfl, rfl⟩)
      go_returns
      exact RetB.mk rfl (by go_grown)

end Go.Proofs.Ytddkjcdnomoglaa
