/- Zones: rising numbers, whether they are zones, the zone of a ring. -/
import Derived.Test.YtddkjcdnomoglaaNums
namespace Go.Proofs.Ytddkjcdnomoglaa
set_option linter.unusedVariables false
open Go.RowKit Go.Proofs.Bell Go.BigFrame

theorem range_step {f : Nat → Bool} {k : Nat} (h : (List.range k).all f = true) (h1 : f k = true) : (List.range (k + 1)).all f = true := by
  rw [List.range_succ, List.all_append, h]; simp [h1]
theorem range_false {f : Nat → Bool} {n k : Nat} (hk : k < n) (h1 : f k = false) : (List.range n).all f = false := by
  rw [List.all_eq_false]; exact ⟨k, List.mem_range.2 hk, by rw [h1]; exact Bool.false_ne_true⟩

/-- the number at `k` lies within bounds and is greater than the one before -/
def riseAt (zs : List Int) (lo hi : Int) (k : Nat) : Bool := inB (zs.getD k 0) lo hi && (k == 0 || decide (zs.getD (k - 1) 0 < zs.getD k 0))
def risesB (zs : List Int) (lo hi : Int) : Bool := (List.range zs.length).all (riseAt zs lo hi)
/-- they are zones of `hi + 1` rings -/
def zonesB (zs : List Int) (hi : Int) : Bool := inB zs.length 1 8 && zs.getD 0 0 == 0 && risesB zs 0 hi

theorem getD_eq {zs : List Int} {k : Nat} (h : k < zs.length) : zs.getD k 0 = zs[k] := by simp [List.getD, h]

set_option maxHeartbeats 1600000 in
theorem l00Rises_c (v : Value) (zs : List Int) (lo hi : Int) (w : World) (h : Rd w v zs.length (ints zs)) :
    Calls Try.prog 124 #[v, .int .i64 lo, .int .i64 hi] w (RetD (.bool (risesB zs lo hi)) w) := by
  generalize hn : zs.length = n at h
  have HN := Lib.hid hn; clear hn
  obtain ⟨hn, ao, cap, b, off, rfl, hao, hcell⟩ := h.open
  clear h
  go_enter Try.func124, Try.ntmps124
  go_wp2_with fail
  go_loopw [7] (fun i wr => ∃ (k : Nat), k ≤ n ∧ i = .int .i64 k ∧ (List.range k).all (riseAt zs lo hi) = true ∧ Dr w wr)
    (fun i _ => n - (intOf i).toNat)
  case atStart => exact ⟨0, Nat.zero_le _, rfl, rfl, Dr.refl _⟩
  case round =>
    obtain ⟨k, hk, rfl, hx, hd⟩ := hrel
    have hb := hd.below
    have HX := Lib.hid hx; clear hx
    by_cases hlt : k < n
    · have hltp : k < zs.length := by rw [HN.out]; exact hlt
      have hix := ix (P := Try.prog) (T := 25) (cap := cap) Try.underlying25 cells_int64 has_int64 hao hlt k rfl
      rw [Nat.mul_one] at hix
      have hc1 : wr.cell? ⟨b, off + k, none⟩ = some (.int .i64 zs[k]) := hcell _ hb _ _ (by omega) (intsAt hltp)
      have hp : riseAt zs lo hi k = true → (List.range (k + 1)).all (riseAt zs lo hi) = true := fun h => range_step HX.out h
      have hq : riseAt zs lo hi k = false → risesB zs lo hi = false := fun h => range_false hltp h
      have HP := Lib.hid hp; clear hp
      have HQ := Lib.hid hq; clear hq
      rcases Nat.eq_zero_or_pos k with h0 | h0
      · have hr : riseAt zs lo hi k = inB zs[k] lo hi := by unfold riseAt; rw [getD_eq hltp]; simp [h0]
        have HR := Lib.hid hr; clear hr
        clear hcell
        have hkd : decide (0 < k) = false := by simp; omega
        have H0 := Lib.hid h0; clear h0
        generalize zs[k] = z at *
        cases t1 : inB z lo hi
        · go_wp2_with fail
          go_quiet ((go_at_call 61; exact quietS (l00In_is _ (by assumption))))
          clear hc1 hkd
          go_wp2
          go_returns
          exact RetD.mk (bool_eq (HQ.out (HR.out.trans t1)).symm) (by first | exact Dr.refl _ | exact Dr.next (by assumption) _ | assumption | exact ⟨_, rfl⟩ | exact ⟨_, World.drewN_drewN _ _ _⟩)
        · go_wp2_with fail
          go_quiet ((go_at_call 61; exact quietS (l00In_is _ (by assumption))))
          clear hc1 hkd
          go_wp2
          go_roundw
          case rel => exact ⟨k + 1, by omega, by go_num, HP.out (HR.out.trans t1), (by first | exact Dr.refl _ | exact Dr.next (by assumption) _ | assumption | exact ⟨_, rfl⟩ | exact ⟨_, World.drewN_drewN _ _ _⟩)⟩
          case measure => simp [intOf]; omega
      · have hk1 : k - 1 < n := by omega
        have hltm : k - 1 < zs.length := by omega
        have hix2 := ix (P := Try.prog) (T := 25) (cap := cap) Try.underlying25 cells_int64 has_int64 hao hk1 ((k : Int) - 1) (by omega)
        rw [Nat.mul_one] at hix2
        have hc2 : wr.cell? ⟨b, off + (k - 1), none⟩ = some (.int .i64 zs[k - 1]) := hcell _ hb _ _ (by omega) (intsAt hltm)
        have hr : riseAt zs lo hi k = (inB zs[k] lo hi && decide (zs[k - 1] < zs[k])) := by
          unfold riseAt; rw [getD_eq hltp, getD_eq hltm]
          have : (k == 0) = false := by simp; omega
          rw [this, Bool.false_or]
        have HR := Lib.hid hr; clear hr
        clear hcell
        have hkd : decide (0 < k) = true := by simp; omega
        have hw1 : IntKind.i64.wrap ((k : Int) - 1) = (k : Int) - 1 := IntWalk.i64_in _ (by omega)
        generalize zs[k - 1] = y at *
        generalize zs[k] = z at *
        cases t1 : inB z lo hi
        · go_wp2_with fail
          go_quiet ((go_at_call 61; exact quietS (l00In_is _ (by assumption))))
          clear hc1 hc2 hkd hw1
          go_wp2
          go_returns
          exact RetD.mk (bool_eq (HQ.out (by rw [HR.out, t1]; rfl)).symm) (by first | exact Dr.refl _ | exact Dr.next (by assumption) _ | assumption | exact ⟨_, rfl⟩ | exact ⟨_, World.drewN_drewN _ _ _⟩)
        · by_cases t2 : y < z
          · go_wp2_with fail
            go_quiet ((go_at_call 61; exact quietS (l00In_is _ (by assumption))))
            clear hc1 hc2 hkd hw1
            go_wp2
            go_roundw
            case rel => exact ⟨k + 1, by omega, by go_num, HP.out (by rw [HR.out, t1]; simpa using t2), (by first | exact Dr.refl _ | exact Dr.next (by assumption) _ | assumption | exact ⟨_, rfl⟩ | exact ⟨_, World.drewN_drewN _ _ _⟩)⟩
            case measure => simp [intOf]; omega
          · go_wp2_with fail
            go_quiet ((go_at_call 61; exact quietS (l00In_is _ (by assumption))))
            clear hc1 hc2 hkd hw1
            go_wp2
            go_returns
            exact RetD.mk (bool_eq (HQ.out (by rw [HR.out, t1]; simpa using t2)).symm) (by first | exact Dr.refl _ | exact Dr.next (by assumption) _ | assumption | exact ⟨_, rfl⟩ | exact ⟨_, World.drewN_drewN _ _ _⟩)
    · obtain rfl : k = n := by omega
      go_wp2
      go_returns
      refine RetD.mk (bool_eq ?_) (by first | exact Dr.refl _ | exact Dr.next (by assumption) _ | assumption | exact ⟨_, rfl⟩ | exact ⟨_, World.drewN_drewN _ _ _⟩)
      have e := HX.out
      rw [← HN.out] at e
      exact e.symm

end Go.Proofs.Ytddkjcdnomoglaa
