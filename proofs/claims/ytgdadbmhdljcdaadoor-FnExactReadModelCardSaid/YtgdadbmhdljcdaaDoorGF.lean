/- Several texts of the proofs in one: Tail, Zones2. -/
import Derived.Test.YtgdadbmhdljcdaaDoorGA
import Derived.Test.YtgdadbmhdljcdaaDoorGB
import Derived.Test.YtgdadbmhdljcdaaDoorGC
import Derived.Deep.Quiet
import Derived.StillTail
/- A region that draws its order: its first operations leave the world in a class, the others follow one another by force. One walk. -/
namespace Go.Proofs.Bell
set_option linter.unusedVariables false
open Go.RowKit

section
variable {P : Program} {ops : Array Oper} {md : Region.Mode} {C : World → Prop}

/-- the head of the region, whatever order is picked: each operation that may come up is one of the head's and is quiet in the class -/
def HeadQ (P : Program) (md : Region.Mode) (ops : Array Oper) (C : World → Prop) (n : Nat) (L : Array Bool → Act → Prop) : Nat → Array Bool → Act → Prop
  | 0, ls, a => L ls a
  | f + 1, ls, a => Region.ready md ops ls ≠ [] ∧ ∀ i ∈ Region.ready md ops ls, i < n ∧ qOp P ops C i (HeadQ P md ops C n L f (ls.setIfInBounds i true)) a

theorem HeadQ.any {n g : Nat} {L : Array Bool → Act → Prop} {Q : Exit → Act → World → Prop} (hL : ∀ ls a w, C w → L ls a → wpAny P md ops Q g ls a w) (f : Nat) :
    ∀ ls a w, C w → HeadQ P md ops C n L f ls a → wpAny P md ops Q (f + g) ls a w := by
  induction f with
  | zero => intro ls a w hw h; rw [Nat.zero_add]; exact hL ls a w hw h
  | succ f ih =>
    intro ls a w hw h
    rw [show f + 1 + g = (f + g) + 1 by omega]
    refine ⟨fun h0 => absurd h0 h.1, fun i hi => ?_⟩
    exact wpOp_of_qOp hw (fun a' w' hw' h' => ih _ a' w' hw' h') (h.2 i hi).2

/-- an operation of the head that may come up now may be taken first -/
theorem HeadQ.first {n i : Nat} {oi : Oper} {v : Value} {L : Array Bool → Act → Prop} (hi : ops[i]? = some oi) (hsel : ∀ (j : Nat) (o : Oper) cs b, ops[j]? = some o → o.op ≠ .select cs b)
    (hs : Region.sinkB md ops n = true) (hc : Region.chainB md ops n = true) (hn : n < ops.size) (hin : i < n) (hL : ∀ ls a, L ls a → ∀ j ∈ Region.ready md ops ls, n ≤ j) (f : Nat) :
    ∀ ls a, HeadInv md ops n ls →
      (∀ j oj, ops[j]? = some oj → j ≠ i → ls.getD j true = false → (∀ e ∈ oj.after, Region.binds md e = true → e.on ≠ i) → oi.apart ops oj = true) →
      i ∈ Region.ready md ops ls → YieldsIn P ops C oi v a → HeadQ P md ops C n L f (ls.setIfInBounds i true) (a.put oi.dst v) → HeadQ P md ops C n L (f + 1) ls a := by
  have low : ∀ ls, HeadInv md ops n ls → i ∈ Region.ready md ops ls → ∀ j ∈ Region.ready md ops ls, j < n := fun ls inv hr j hj =>
    Nat.lt_of_not_le fun h => tail_waits hs hc hn inv _ i rfl hin (mem_ready.1 hr).1 j h hj
  induction f with
  | zero =>
    intro ls a inv hap hr hy h
    refine ⟨List.ne_nil_of_mem hr, fun j hj => ⟨low ls inv hr j hj, ?_⟩⟩
    rcases Nat.decEq j i with hne | rfl
    · exact absurd (low ls inv hr j hj) (Nat.not_lt.2 (hL _ _ h j (ready_mono hj hne)))
    · exact hy.qOp hi h
  | succ f ih =>
    intro ls a inv hap hr hy h
    refine ⟨List.ne_nil_of_mem hr, fun j hj => ⟨low ls inv hr j hj, ?_⟩⟩
    rcases Nat.decEq j i with hne | rfl
    · obtain ⟨hju, oj, hoj, hall⟩ := mem_ready.1 hj
      have hiu := (mem_ready.1 hr).1
      have free : ∀ e ∈ oj.after, Region.binds md e = true → e.on ≠ i := fun e he hb heq => by
        have := hall e he hb
        rw [heq, getD_both hiu] at this
        cases this
      have step := qOp_put hoj (hap j oj hoj hne hju free) (fun cs b => hsel i oi cs b hi) (fun cs b => hsel j oj cs b hoj) hy (h.2 j (ready_mono hj hne)).2
      refine qOp_mono (fun a' ⟨y', h'⟩ => ih _ a' (inv.set hj (low ls inv hr j hj)) (fun k ok hk hki hku hf => ?_) (ready_mono hr (Ne.symm hne)) y' ?_) step
      · refine hap k ok hk hki ?_ hf
        rcases Nat.decEq j k with hjk | rfl
        · rwa [getD_set_ne true hjk] at hku
        · exact hju
      · rw [Array.setIfInBounds_comm _ _ hne]; exact h'
    · exact hy.qOp hi h

theorem HeadQ.lex {n g : Nat} {R : Act → Prop} (hsel : Region.noSelect ops = true) (hs : Region.sinkB md ops n = true) (hc : Region.chainB md ops n = true) (hn : n < ops.size) (l : List Oper) :
    ∀ k ls a, (∀ j, j < l.length → l[j]? = ops[k + j]?) → k + l.length = n → HeadInv md ops n ls → Region.lexHead md ops g l.length k ls = true → wpQuiet P ops C R l a →
      HeadQ P md ops C n (fun ls' a' => Region.seqB md ops g n ls' = true ∧ R a') l.length ls a := by
  induction l with
  | nil =>
    intro k ls a _ hk _ hB h
    simp only [List.length_nil, Nat.add_zero] at hk
    subst hk
    exact ⟨by simpa [Region.lexHead] using hB, h⟩
  | cons o l ih =>
    intro k ls a hl hk inv hB h
    have h0 : ops[k]? = some o := by have := hl 0 (by simp); simpa using this.symm
    simp only [List.length_cons, Region.lexHead, Bool.and_eq_true] at hB hk
    have hq : qOp P ops C k (wpQuiet P ops C R l) a := by unfold qOp; simp only [h0]; exact h
    obtain ⟨v, hy, hR⟩ := yieldsIn_of_qOp h0 hq
    have hr : k ∈ Region.ready md ops ls := by simpa using hB.1.1
    refine HeadQ.first h0 (Region.noSelect_spec hsel) hs hc hn (by omega) (fun ls' a' hL => seqB_ready hL.1) _ ls a inv (Region.free_spec h0 hB.1.2) hr hy ?_
    exact ih (k + 1) _ _ (fun j hj => by have := hl (j + 1) (by simp; omega); simpa [Nat.add_assoc, Nat.add_comm 1 j] using this) (by omega) (inv.set hr (by omega)) hB.2 hR

/-- **THE WALK**: the first `n` operations in the text's order, quiet in the class; then the others, one behind the other, from every world of the class -/
theorem wp_region_quiet_tail {id : Nat} {Q : Exit → Act → World → Prop} {a : Act} {w : World} {l : List Oper} (n : Nat) (hm : P.follows .mixedOrders = true) (hB : Region.lexTailB .any l.toArray n = true) (hC : C { w with drawn := w.drawn + 1 })
    (h : wpQuiet P l.toArray C (fun a' => ∀ w', C w' → wpList P l.toArray Q (l.drop n) a' w') (l.take n) a) : (Code.region id l.toArray true).wp P Q a w := by
  simp only [Region.lexTailB, Bool.and_eq_true, decide_eq_true_eq] at hB
  obtain ⟨⟨⟨⟨hsel, hn⟩, hs⟩, hc⟩, hlex⟩ := hB
  have hnl : n < l.length := by simpa using hn
  have htl : (l.take n).length = n := by rw [List.length_take]; omega
  have inv : HeadInv .any l.toArray n (Array.replicate l.toArray.size false) :=
    { size := by simp
      closed := fun j oj _ hl => by rw [getD_replicate_false] at hl; cases hl
      tail := fun t _ ht => getD_in (by simpa using ht) (getD_replicate_false _ _) }
  have H := HeadQ.lex (md := .any) (g := l.toArray.size - n) hsel hs hc hn (l.take n) 0 _ a (fun j hj => by rw [htl] at hj; simp [List.getElem?_take, hj]) (by omega) inv (by rw [htl]; exact hlex) h
  refine wp_region_any hm ?_
  have hfin := HeadQ.any (Q := Q) (g := l.toArray.size - n) (fun ls a' w' hw' hL => by
    have := wpAny_of_seq (md := .any) (Q' := Q) (l.drop n) n ls a' w' (fun j => by simp [List.getElem?_drop]) (by simpa using hL.1) (hL.2 w' hw')
    simpa using this) _ _ _ _ hC H
  rw [htl, show n + (l.toArray.size - n) = l.toArray.size by omega] at hfin
  exact hfin

/-- .. the class: the worlds behind `w` that leave alone what was there -/
theorem wp_region_lat_tail {id : Nat} {Q : Exit → Act → World → Prop} {a : Act} {w : World} {l : List Oper} (n : Nat) (hm : P.follows .mixedOrders = true) (hB : Region.lexTailB .any l.toArray n = true)
    (h : wpQuiet P l.toArray (fun w' => ∃ s : Lat w, w' = s.world) (fun a' => ∀ w', (∃ s : Lat w, w' = s.world) → wpList P l.toArray Q (l.drop n) a' w') (l.take n) a) : (Code.region id l.toArray true).wp P Q a w :=
  wp_region_quiet_tail (C := fun w' => ∃ s : Lat w, w' = s.world) n hm hB ⟨⟨w.drew, (Below.refl _ _).drew⟩, rfl⟩ h

/-- .. the class: draws alone -/
theorem wp_region_drew_tail {id : Nat} {Q : Exit → Act → World → Prop} {a : Act} {w : World} {l : List Oper} (n : Nat) (hm : P.follows .mixedOrders = true) (hB : Region.lexTailB .any l.toArray n = true)
    (h : wpQuiet P l.toArray (fun w' => ∃ m, w' = w.drewN m) (fun a' => ∀ w', (∃ m, w' = w.drewN m) → wpList P l.toArray Q (l.drop n) a' w') (l.take n) a) : (Code.region id l.toArray true).wp P Q a w :=
  wp_region_quiet_tail (C := fun w' => ∃ m, w' = w.drewN m) n hm hB ⟨1, rfl⟩ h
end

end Go.Proofs.Bell

/- Zones: the program's test and the reference's; the zone of a ring; the statement FnExactZoneOf's law. -/
namespace Go.Proofs.YtgdadbmhdljcdaaDoor
set_option linter.unusedVariables false
open Go.RowKit Go.Proofs.Bell Go.BigFrame

def azAt (zs : List Int) (rings : Int) (k : Nat) : Bool := (k == 0 || decide (zs.getD (k - 1) 0 < zs.getD k 0)) && decide (zs.getD k 0 < rings)
def azB (zs : List Int) (rings : Int) : Bool := (List.range zs.length).all (azAt zs rings) && (inB zs.length 1 8 && zs.getD 0 0 == 0)

theorem azB_eq (zs : List Int) (rings : Int) : azB zs rings = zonesB zs (rings - 1) := by
  unfold azB zonesB risesB
  cases h1 : inB zs.length 1 8
  · simp
  · cases h2 : (zs.getD 0 0 == 0)
    · simp
    · simp only [Bool.and_true, Bool.true_and]
      have h0 : zs.getD 0 0 = 0 := by simpa using h2
      rw [Bool.eq_iff_iff, List.all_eq_true, List.all_eq_true]
      constructor
      · intro h
        have pos : ∀ k, k < zs.length → 0 ≤ zs.getD k 0 := by
          intro k
          induction k with
          | zero => intro _; omega
          | succ k ih =>
            intro hk
            have := h (k + 1) (List.mem_range.2 hk)
            simp only [azAt, Nat.add_sub_cancel, Bool.and_eq_true, Bool.or_eq_true, decide_eq_true_eq, beq_iff_eq] at this
            have := ih (by omega)
            omega
        intro k hk
        have hk' := List.mem_range.1 hk
        have h3 := h k hk
        have h4 := pos k hk'
        simp only [azAt, riseAt, inB, Bool.and_eq_true, Bool.or_eq_true, decide_eq_true_eq, beq_iff_eq] at h3 ⊢
        omega
      · intro h k hk
        have h3 := h k hk
        simp only [azAt, riseAt, inB, Bool.and_eq_true, Bool.or_eq_true, decide_eq_true_eq, beq_iff_eq] at h3 ⊢
        omega

theorem size64_c (v : Value) (n : Nat) (xs : List Value) (w : World) (h : Rd w v n xs) : Calls Tryd.prog 126 #[v] w (RetS (.int .i64 n) w) := by
  obtain ⟨hn, ao, cap, b, off, rfl, hao, hcell⟩ := h.open
  clear hcell h
  go_enter Tryd.func126, Tryd.ntmps126
  go_wp2
  go_returns
  exact RetS.mk rfl

set_option maxHeartbeats 1600000 in
theorem areZones_c (v : Value) (zs : List Int) (rings : Int) (w : World) (h : Rd w v zs.length (ints zs)) :
    Calls Tryd.prog 86 #[v, .int .i64 rings] w (RetS (.bool (zonesB zs (rings - 1))) w) := by
  rw [← azB_eq]
  have hsz := size64_c v zs.length (ints zs) w h
  have HSZ := Lib.hid hsz; clear hsz
  generalize hn : zs.length = n at h HSZ
  have HN := Lib.hid hn; clear hn
  obtain ⟨hn, ao, cap, b, off, rfl, hao, hcell⟩ := h.open
  clear h
  go_enter Tryd.func86, Tryd.ntmps86
  go_wp2_with fail
  go_loop [9] (fun i => ∃ (k : Nat), k ≤ n ∧ i = .int .i64 k ∧ (List.range k).all (azAt zs rings) = true) (fun i => n - (intOf i).toNat)
  case atStart => exact ⟨0, Nat.zero_le _, rfl, rfl⟩
  case round =>
    obtain ⟨k, hk, rfl, hx⟩ := hrel
    have HX := Lib.hid hx; clear hx
    by_cases hlt : k < n
    · have hltp : k < zs.length := by rw [HN.out]; exact hlt
      have hix := ix (P := Tryd.prog) (T := 22) (cap := cap) Tryd.underlying22 cells_int64 has_int64 hao hlt k rfl
      rw [Nat.mul_one] at hix
      have hc1 : w.cell? ⟨b, off + k, none⟩ = some (.int .i64 zs[k]) := hcell _ (Below.refl _ _) _ _ (by omega) (intsAt hltp)
      have hp : azAt zs rings k = true → (List.range (k + 1)).all (azAt zs rings) = true := fun h => range_step HX.out h
      have hq : azAt zs rings k = false → azB zs rings = false := fun h => by unfold azB; rw [range_false hltp h]; rfl
      have HP := Lib.hid hp; clear hp
      have HQ := Lib.hid hq; clear hq
      rcases Nat.eq_zero_or_pos k with h0 | h0
      · have hr : azAt zs rings k = decide (zs[k] < rings) := by unfold azAt; rw [getD_eq hltp]; simp [h0]
        have HR := Lib.hid hr; clear hr
        clear hcell
        have hkd : decide (0 < k) = false := by simp; omega
        have H0 := Lib.hid h0; clear h0
        generalize zs[k] = z at *
        by_cases t1 : z < rings
        · go_wp2
          go_round
          case rel => exact ⟨k + 1, by omega, by go_num, HP.out (by rw [HR.out]; simpa using t1)⟩
          case measure => simp [intOf]; omega
        · go_wp2
          go_returns
          exact RetS.mk (bool_eq (HQ.out (by rw [HR.out]; simpa using t1)).symm)
      · have hk1 : k - 1 < n := by omega
        have hltm : k - 1 < zs.length := by omega
        have hix2 := ix (P := Tryd.prog) (T := 22) (cap := cap) Tryd.underlying22 cells_int64 has_int64 hao hk1 ((k : Int) - 1) (by omega)
        rw [Nat.mul_one] at hix2
        have hc2 : w.cell? ⟨b, off + (k - 1), none⟩ = some (.int .i64 zs[k - 1]) := hcell _ (Below.refl _ _) _ _ (by omega) (intsAt hltm)
        have hr : azAt zs rings k = (decide (zs[k - 1] < zs[k]) && decide (zs[k] < rings)) := by
          unfold azAt; rw [getD_eq hltp, getD_eq hltm]
          have : (k == 0) = false := by simp; omega
          rw [this, Bool.false_or]
        have HR := Lib.hid hr; clear hr
        clear hcell
        have hkd : decide (0 < k) = true := by simp; omega
        generalize zs[k - 1] = y at *
        generalize zs[k] = z at *
        by_cases t1 : y < z <;> by_cases t2 : z < rings
        · go_wp2
          go_round
          case rel => exact ⟨k + 1, by omega, by go_num, HP.out (by rw [HR.out]; simp; omega)⟩
          case measure => simp [intOf]; omega
        all_goals
          go_wp2
          go_returns
          exact RetS.mk (bool_eq (HQ.out (by rw [HR.out]; simp; omega)).symm)
    · obtain rfl : k = n := by omega
      have hx := HX.out
      rw [← HN.out] at hx
      have ha : azB zs rings = (inB zs.length 1 8 && zs.getD 0 0 == 0) := by unfold azB; rw [hx]; rfl
      rw [HN.out] at ha
      clear hx
      have HA := Lib.hid ha; clear ha
      cases t1 : inB k 1 8
      · go_wp2_with (first | (go_at_call 126; refine HSZ.out.mono ?_; rintro _ _ ⟨rfl, rfl⟩) | (go_at_call 90; refine (within_is _ t1).mono ?_; rintro _ _ ⟨rfl, rfl⟩))
        go_returns
        exact RetS.mk (bool_eq (by rw [HA.out, t1]; rfl))
      · obtain ⟨q1, _⟩ := inB_t t1
        have hk0 : 0 < k := by omega
        have hltp : 0 < zs.length := by rw [HN.out]; exact hk0
        have hix := ix (P := Tryd.prog) (T := 22) (cap := cap) Tryd.underlying22 cells_int64 has_int64 hao hk0 0 rfl
        rw [Nat.zero_mul, Nat.add_zero] at hix
        have hc1 : w.cell? ⟨b, off, none⟩ = some (.int .i64 zs[0]) := by
          have := hcell _ (Below.refl _ _) _ _ hk0 (intsAt hltp)
          rwa [Nat.add_zero] at this
        have hz : zs.getD 0 0 = zs[0] := getD_eq hltp
        have HZ := Lib.hid hz; clear hz
        clear hcell
        generalize zs[0] = z at *
        clear hao
        go_wp2_with (first | (go_at_call 126; refine HSZ.out.mono ?_; rintro _ _ ⟨rfl, rfl⟩) | (go_at_call 90; refine (within_is _ t1).mono ?_; rintro _ _ ⟨rfl, rfl⟩))
        go_returns
        exact RetS.mk (bool_eq (by rw [HA.out, t1, HZ.out]; rfl))

/-- the last of the first `k` numbers that is not above `ring` -/
def lastLe (zs : List Int) (ring : Int) : Nat → Nat
  | 0 => 0
  | k + 1 => if zs.getD k 0 ≤ ring then k else lastLe zs ring k
theorem lastLe_yes {zs : List Int} {ring : Int} {k : Nat} (hk : k < zs.length) (h : zs[k] ≤ ring) : lastLe zs ring (k + 1) = k := by
  unfold lastLe; rw [getD_eq hk, if_pos h]
theorem lastLe_no {zs : List Int} {ring : Int} {k : Nat} (hk : k < zs.length) (h : ¬ zs[k] ≤ ring) : lastLe zs ring (k + 1) = lastLe zs ring k := by
  conv => lhs; unfold lastLe
  rw [getD_eq hk, if_neg h]
theorem lastLe_le (zs : List Int) (ring : Int) : ∀ k, lastLe zs ring k ≤ k
  | 0 => Nat.le_refl _
  | k + 1 => by unfold lastLe; have := lastLe_le zs ring k; split <;> omega
def zoneI (zs : List Int) (ring : Int) : Nat := lastLe zs ring zs.length
def zoneOfI (zs : List Int) (ring : Int) : Int × Int := if zonesB zs 31 then (if inB ring 0 31 then ((zoneI zs ring : Nat), 0) else (0, 2)) else (0, 1)

theorem specZones_eq (zs : List Int) : zonesB zs 31 = (decide (1 ≤ zs.length) && decide (zs.length ≤ 8) && (zs.getD 0 0 == 0) && risesB zs 0 31) := by
  unfold zonesB inB
  congr 2
  rw [Bool.eq_iff_iff]
  simp
  omega

end Go.Proofs.YtgdadbmhdljcdaaDoor

