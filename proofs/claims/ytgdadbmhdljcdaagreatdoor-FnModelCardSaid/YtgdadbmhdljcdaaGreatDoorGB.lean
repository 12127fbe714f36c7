/- Several texts of the proofs in one: Cuts, Cuts2, Rings, Zones, Prof, Marks. -/
import Derived.Test.YtgdadbmhdljcdaaGreatDoorGA
import Derived.Lib.Hide
/- Slices of cuts: the law's copy, size, comparison, marks. -/
namespace Go.Proofs.YtgdadbmhdljcdaaGreatDoor
set_option linter.unusedVariables false
open Go.RowKit Go.Proofs.Bell Go.BigFrame

def eqP (p q : Int × Int) : Bool := decide (p = q)
theorem info_Cut : (Tryz.prog.info? 74).map (fun i => (i.zero, i.size, i.bytes)) = some (some (.agg #[.int .i64 0, .int .i64 0]), 2, 16) := by kernel_rfl
theorem cells_Cut : Tryz.prog.cellsOf 74 = 2 := by kernel_rfl
theorem has_Cut : (Tryz.prog.info? 74).isSome = true := by kernel_rfl
/-- a slice of one's own that holds these -/
def OwnC (base : Nat) (w : World) (v : Value) (ps : List (Int × Int)) : Prop := w.ownsRow base 74 2 v ps.length (pairs ps)
def RetOwnC (ps : List (Int × Int)) (w : World) (e : Ending) (w' : World) : Prop := ∃ v, e = .returned v ∧ OwnC w.heap.size w' v ps ∧ Below w.heap.size w w'

def eqPs (ps qs : List (Int × Int)) : Bool := decide (ps = qs)
theorem eqPs_refl (ps : List (Int × Int)) : eqPs ps ps = true := decide_eq_true rfl

/-- the marks of `n` of them, from `k0` on -/
def mk2 (k0 : Int) (n : Nat) : List (Int × Int) := (List.range n).map fun i : Nat => (k0 + 2 * (i : Int), k0 + 2 * (i : Int) + 1)
theorem mk2_len (k0 : Int) (n : Nat) : (mk2 k0 n).length = n := by simp [mk2]
theorem mk2_get {k0 : Int} {n i : Nat} (h : i < (mk2 k0 n).length) : (mk2 k0 n)[i] = (k0 + 2 * (i : Int), k0 + 2 * (i : Int) + 1) := by simp [mk2]

end Go.Proofs.YtgdadbmhdljcdaaGreatDoor

/- Cuts: validity and sums. -/
namespace Go.Proofs.YtgdadbmhdljcdaaGreatDoor
set_option linter.unusedVariables false
open Go.RowKit Go.Proofs.Bell Go.BigFrame

def cutB (p : Int × Int) : Bool := inB p.1 0 7 && inB p.2 1 20
def cutsB (ps : List (Int × Int)) : Bool := ps.all cutB && decide (ps.length ≤ 64)

theorem all_take_step {α : Type} {p : α → Bool} {xs : List α} {k : Nat} (h : (xs.take k).all p = true) (hk : k < xs.length) (h1 : p xs[k] = true) : (xs.take (k + 1)).all p = true := by
  rw [List.take_succ_eq_append_getElem hk, List.all_append, h]; simp [h1]
theorem all_false_of {α : Type} {p : α → Bool} {xs : List α} {k : Nat} (hk : k < xs.length) (h1 : p xs[k] = false) : xs.all p = false := by
  rw [List.all_eq_false]; exact ⟨xs[k], List.getElem_mem hk, by rw [h1]; exact Bool.false_ne_true⟩

theorem ValidCuts1_c (p : Int × Int) (w : World) : Calls Tryz.prog 129 #[.agg #[.int .i64 p.1, .int .i64 p.2]] w (RetB (.bool (!cutB p)) w) := by
  obtain ⟨z, s⟩ := p
  cases t1 : inB z 0 7 <;>
  · go_enter Tryz.func129, Tryz.ntmps129
    go_wp2_with (go_at_call 56; refine (within_c _ _ _ _).mono ?_; rintro _ _ ⟨rfl, rfl⟩)
    go_returns
    refine RetB.mk (bool_eq (by simp [cutB, t1])) ?_
    go_grown

/-- where the first element lies that meets `p`; -1 where there is none -/
def findI {α : Type} (p : α → Bool) (xs : List α) : Int := match xs.findIdx? p with | some k => k | none => -1
theorem findI_none {α : Type} {p : α → Bool} {xs : List α} (h : xs.all (fun x => !p x) = true) : findI p xs = -1 := by
  unfold findI
  rw [List.findIdx?_eq_none_iff.2 (fun x hx => by simpa using List.all_eq_true.1 h x hx)]
theorem findI_some {α : Type} {p : α → Bool} {xs : List α} {k : Nat} (h : (xs.take k).all (fun x => !p x) = true) (hk : k < xs.length) (h1 : p xs[k] = true) : findI p xs = k := by
  unfold findI
  have : xs.findIdx? p = some k := by
    rw [List.findIdx?_eq_some_iff_getElem]
    refine ⟨hk, h1, fun j hj => ?_⟩
    have := List.all_eq_true.1 h xs[j] (by rw [List.mem_take_iff_getElem]; exact ⟨j, by omega, rfl⟩)
    simpa using this
  rw [this]
theorem findI_lt {α : Type} {p : α → Bool} {xs : List α} : findI p xs < 0 ↔ xs.any p = false := by
  unfold findI
  cases h : xs.findIdx? p with
  | none => simp only [List.findIdx?_eq_none_iff] at h; simp [List.any_eq_false]; exact h
  | some k =>
    rw [List.findIdx?_eq_some_iff_getElem] at h
    obtain ⟨hk, h1, _⟩ := h
    simp only [List.any_eq_false]
    constructor
    · intro h; omega
    · intro h; exact absurd h1 (h _ (List.getElem_mem hk))

set_option maxHeartbeats 800000 in
theorem IndexFuncCut_c (g : Nat) (cs : Array Value) (p : Int × Int → Bool) (v : Value) (ps : List (Int × Int)) (w : World) (h : Rd w v ps.length (pairs ps))
    (hcall : ∀ (args : Array Value) (w : World), (callFunc g args).run Tryz.prog w = .ok (.enter g args) w)
    (hg : ∀ x, x ∈ ps → ∀ w', Below w.heap.size w w' → Calls Tryz.prog g (#[.agg #[.int .i64 x.1, .int .i64 x.2]] ++ cs) w' (RetB (.bool (p x)) w')) :
    Calls Tryz.prog 131 #[v, .func (.func g) #[] cs] w (RetB (.int .i64 (findI p ps)) w) := by
  generalize hn : ps.length = n at h
  have HN := Lib.hid hn; clear hn
  have HG := Lib.hid hg; clear hg
  obtain ⟨hn, ao, cap, b, off, rfl, hao, hcell⟩ := h.open
  clear h
  go_enter Tryz.func131, Tryz.ntmps131
  go_wp2_with fail
  go_loopw [8] (fun i wr => ∃ (k : Nat), k ≤ n ∧ i = .int .i64 k ∧ (ps.take k).all (fun x => !p x) = true ∧ Below w.heap.size w wr) (fun i _ => n - (intOf i).toNat)
  case atStart => exact ⟨0, Nat.zero_le _, rfl, rfl, Below.refl _ _⟩
  case round =>
    obtain ⟨k, hk, rfl, hx, hb⟩ := hrel
    have HX := Lib.hid hx; clear hx
    by_cases hlt : k < n
    · have hltp : k < ps.length := by rw [HN.out]; exact hlt
      have hix := ix (P := Tryz.prog) (T := 65) (cap := cap) Tryz.underlying65 cells_Cut has_Cut hao hlt k rfl
      have hc1 : wr.cell? ⟨b, off + k * 2, none⟩ = some (.int .i64 ps[k].1) := hcell _ hb _ _ (by omega) (pairs_at hltp).1
      have hc2 : wr.cell? ⟨b, off + k * 2 + 1, none⟩ = some (.int .i64 ps[k].2) := hcell _ hb _ _ (by omega) (pairs_at hltp).2
      have hgk := HG.out ps[k] (List.getElem_mem hltp) wr hb
      have HGK := Lib.hid hgk; clear hgk
      have hp : p ps[k] = false → (ps.take (k + 1)).all (fun x => !p x) = true := fun h1 => all_take_step HX.out hltp (by rw [h1]; rfl)
      have hq : p ps[k] = true → findI p ps = k := fun h => findI_some HX.out hltp h
      have HP := Lib.hid hp; clear hp
      have HQ := Lib.hid hq; clear hq
      clear hcell
      generalize ps[k] = x at *
      go_wp2_with fail
      refine HGK.out.mono ?_
      rintro _ w1 ⟨rfl, hb1⟩
      have hb2 := hb.trans (hb1.mono hb.size)
      cases t1 : p x
      · go_wp2
        go_roundw
        case rel => exact ⟨k + 1, by omega, by go_num, HP.out t1, hb2⟩
        case measure => simp [intOf]; omega
      · go_wp2
        go_returns
        exact RetB.mk (int_eq (HQ.out t1).symm) hb2
    · obtain rfl : k = n := by omega
      go_wp2
      go_returns
      refine RetB.mk (int_eq ?_) hb
      have e := HX.out
      rw [List.take_of_length_le (by rw [HN.out]; exact Nat.le_refl _)] at e
      exact (findI_none e).symm

theorem ContainsFuncCut_c (g : Nat) (cs : Array Value) (p : Int × Int → Bool) (v : Value) (ps : List (Int × Int)) (w : World) (h : Rd w v ps.length (pairs ps))
    (hcall : ∀ (args : Array Value) (w : World), (callFunc g args).run Tryz.prog w = .ok (.enter g args) w)
    (hg : ∀ x, x ∈ ps → ∀ w', Below w.heap.size w w' → Calls Tryz.prog g (#[.agg #[.int .i64 x.1, .int .i64 x.2]] ++ cs) w' (RetB (.bool (p x)) w')) :
    Calls Tryz.prog 97 #[v, .func (.func g) #[] cs] w (RetB (.bool (ps.any p)) w) := by
  have hf := findI_lt (p := p) (xs := ps)
  have HF := Lib.hid hf; clear hf
  have HG := Lib.hid hg; clear hg
  have HC := Lib.hid hcall; clear hcall
  have hi := IndexFuncCut_c g cs p v ps w h HC.out HG.out
  have HI := Lib.hid hi; clear hi
  generalize findI p ps = fi at *
  by_cases h0 : fi < 0
  · go_enter Tryz.func97, Tryz.ntmps97
    go_wp2_with (go_at_call 131; refine HI.out.mono ?_; rintro _ w1 ⟨rfl, hb1⟩)
    go_returns
    exact RetB.mk (bool_eq (by rw [HF.out.1 h0] <;> simp <;> omega)) ‹_›
  · have h1 : ps.any p = true := by
      cases h : ps.any p
      · exact absurd (HF.out.2 h) h0
      · rfl
    have H1 := Lib.hid h1; clear h1
    go_enter Tryz.func97, Tryz.ntmps97
    go_wp2_with (go_at_call 131; refine HI.out.mono ?_; rintro _ w1 ⟨rfl, hb1⟩)
    go_returns
    exact RetB.mk (bool_eq (by rw [H1.out] <;> simp <;> omega)) ‹_›

theorem any_not {α : Type} (p : α → Bool) (xs : List α) : xs.any (fun x => !p x) = !xs.all p := by
  induction xs with
  | nil => rfl
  | cons x xs ih => simp [ih, Bool.not_and]

theorem ValidCuts_c (v : Value) (ps : List (Int × Int)) (w : World) (h : Rd w v ps.length (pairs ps)) :
    Calls Tryz.prog 91 #[v] w (RetB (.bool (cutsB ps)) w) := by
  have hi := ContainsFuncCut_c 129 #[] (fun x => !cutB x) v ps w h (enters Tryz.func129 (by kernel_rfl) rfl) (fun x _ w' _ => ValidCuts1_c x w')
  have HI := Lib.hid hi; clear hi
  obtain ⟨hn, ao, cap, b, off, rfl, hao, hcell⟩ := h.open
  clear hcell
  by_cases hl : ps.length ≤ 64
  · go_enter Tryz.func91, Tryz.ntmps91
    go_wp2_with (go_at_call 97; refine HI.out.mono ?_; rintro _ w1 ⟨rfl, hb1⟩)
    go_returns
    exact RetB.mk (bool_eq (by rw [cutsB, any_not]; simp [hl])) ‹_›
  · go_enter Tryz.func91, Tryz.ntmps91
    go_wp2
    go_returns
    exact RetB.mk (bool_eq (by rw [cutsB]; simp; omega)) (Below.refl _ _)

end Go.Proofs.YtgdadbmhdljcdaaGreatDoor

/- Slices of rings: the law's copy, size, comparison, marks. -/
namespace Go.Proofs.YtgdadbmhdljcdaaGreatDoor
set_option linter.unusedVariables false
open Go.RowKit Go.Proofs.Bell Go.BigFrame

def eqR (p q : Int × Int × Int) : Bool := decide (p = q)
theorem info_Ring : (Tryz.prog.info? 37).map (fun i => (i.zero, i.size, i.bytes)) = some (some (.agg #[.int .i64 0, .int .i64 0, .int .i64 0]), 3, 24) := by kernel_rfl
theorem cells_Ring : Tryz.prog.cellsOf 37 = 3 := by kernel_rfl
theorem has_Ring : (Tryz.prog.info? 37).isSome = true := by kernel_rfl
/-- a slice of one's own that holds these -/
def OwnR (base : Nat) (w : World) (v : Value) (ps : List (Int × Int × Int)) : Prop := w.ownsRow base 37 3 v ps.length (trips ps)
def RetOwnR (ps : List (Int × Int × Int)) (w : World) (e : Ending) (w' : World) : Prop := ∃ v, e = .returned v ∧ OwnR w.heap.size w' v ps ∧ Below w.heap.size w w'

def eqRs (ps qs : List (Int × Int × Int)) : Bool := decide (ps = qs)
theorem eqRs_refl (ps : List (Int × Int × Int)) : eqRs ps ps = true := decide_eq_true rfl

/-- the marks of `n` of them, from `k0` on -/
def mk3 (k0 : Int) (n : Nat) : List (Int × Int × Int) := (List.range n).map fun i : Nat => (k0 + 3 * (i : Int), k0 + 3 * (i : Int) + 1, k0 + 3 * (i : Int) + 2)
theorem mk3_len (k0 : Int) (n : Nat) : (mk3 k0 n).length = n := by simp [mk3]
theorem mk3_get {k0 : Int} {n i : Nat} (h : i < (mk3 k0 n).length) : (mk3 k0 n)[i] = (k0 + 3 * (i : Int), k0 + 3 * (i : Int) + 1, k0 + 3 * (i : Int) + 2) := by simp [mk3]

end Go.Proofs.YtgdadbmhdljcdaaGreatDoor

/- Zones: rising numbers, whether they are zones, the zone of a ring. -/
namespace Go.Proofs.YtgdadbmhdljcdaaGreatDoor
set_option linter.unusedVariables false
open Go.RowKit Go.Proofs.Bell Go.BigFrame

theorem range_step {f : Nat → Bool} {k : Nat} (h : (List.range k).all f = true) (h1 : f k = true) : (List.range (k + 1)).all f = true := by
  rw [List.range_succ, List.all_append, h]; simp [h1]
theorem range_false {f : Nat → Bool} {n k : Nat} (hk : k < n) (h1 : f k = false) : (List.range n).all f = false := by
  rw [List.all_eq_false]; exact ⟨k, List.mem_range.2 hk, by rw [h1]; exact Bool.false_ne_true⟩

/-- the number at `k` lies within bounds and is greater than the one before -/
def riseAt (zs : List Int) (lo hi : Int) (k : Nat) : Bool := inB (zs.getD k 0) lo hi && (k == 0 || decide (zs.getD (k - 1) 0 < zs.getD k 0))
def risesB (zs : List Int) (lo hi : Int) : Bool := (List.range zs.length).all (riseAt zs lo hi)
/-- they are zones of `hi + 1` rings -/
def zonesB (zs : List Int) (hi : Int) : Bool := inB zs.length 1 8 && zs.getD 0 0 == 0 && risesB zs 0 hi

theorem getD_eq {zs : List Int} {k : Nat} (h : k < zs.length) : zs.getD k 0 = zs[k] := by simp [List.getD, h]

set_option maxHeartbeats 1600000 in
theorem l00Rises_c (v : Value) (zs : List Int) (lo hi : Int) (w : World) (h : Rd w v zs.length (ints zs)) :
    Calls Tryz.prog 125 #[v, .int .i64 lo, .int .i64 hi] w (RetD (.bool (risesB zs lo hi)) w) := by
  generalize hn : zs.length = n at h
  have HN := Lib.hid hn; clear hn
  obtain ⟨hn, ao, cap, b, off, rfl, hao, hcell⟩ := h.open
  clear h
  go_enter Tryz.func125, Tryz.ntmps125
  go_wp2_with fail
  go_loopw [7] (fun i wr => ∃ (k : Nat), k ≤ n ∧ i = .int .i64 k ∧ (List.range k).all (riseAt zs lo hi) = true ∧ Dr w wr)
    (fun i _ => n - (intOf i).toNat)
  case atStart => exact ⟨0, Nat.zero_le _, rfl, rfl, Dr.refl _⟩
  case round =>
    obtain ⟨k, hk, rfl, hx, hd⟩ := hrel
    have hb := hd.below
    have HX := Lib.hid hx; clear hx
    by_cases hlt : k < n
    · have hltp : k < zs.length := by rw [HN.out]; exact hlt
      have hix := ix (P := Tryz.prog) (T := 42) (cap := cap) Tryz.underlying42 cells_int64 has_int64 hao hlt k rfl
      rw [Nat.mul_one] at hix
      have hc1 : wr.cell? ⟨b, off + k, none⟩ = some (.int .i64 zs[k]) := hcell _ hb _ _ (by omega) (intsAt hltp)
      have hp : riseAt zs lo hi k = true → (List.range (k + 1)).all (riseAt zs lo hi) = true := fun h => range_step HX.out h
      have hq : riseAt zs lo hi k = false → risesB zs lo hi = false := fun h => range_false hltp h
      have HP := Lib.hid hp; clear hp
      have HQ := Lib.hid hq; clear hq
      rcases Nat.eq_zero_or_pos k with h0 | h0
      · have hr : riseAt zs lo hi k = inB zs[k] lo hi := by unfold riseAt; rw [getD_eq hltp]; simp [h0]
        have HR := Lib.hid hr; clear hr
        clear hcell
        have hkd : decide (0 < k) = false := by simp; omega
        have H0 := Lib.hid h0; clear h0
        generalize zs[k] = z at *
        cases t1 : inB z lo hi
        · go_wp2_with fail
          go_quiet ((go_at_call 124; exact quietS (l00In_is _ (by assumption))))
          clear hc1 hkd
          go_wp2
          go_returns
          exact RetD.mk (bool_eq (HQ.out (HR.out.trans t1)).symm) (by first | exact Dr.refl _ | exact Dr.next (by assumption) _ | assumption | exact ⟨_, rfl⟩ | exact ⟨_, World.drewN_drewN _ _ _⟩)
        · go_wp2_with fail
          go_quiet ((go_at_call 124; exact quietS (l00In_is _ (by assumption))))
          clear hc1 hkd
          go_wp2
          go_roundw
          case rel => exact ⟨k + 1, by omega, by go_num, HP.out (HR.out.trans t1), (by first | exact Dr.refl _ | exact Dr.next (by assumption) _ | assumption | exact ⟨_, rfl⟩ | exact ⟨_, World.drewN_drewN _ _ _⟩)⟩
          case measure => simp [intOf]; omega
      · have hk1 : k - 1 < n := by omega
        have hltm : k - 1 < zs.length := by omega
        have hix2 := ix (P := Tryz.prog) (T := 42) (cap := cap) Tryz.underlying42 cells_int64 has_int64 hao hk1 ((k : Int) - 1) (by omega)
        rw [Nat.mul_one] at hix2
        have hc2 : wr.cell? ⟨b, off + (k - 1), none⟩ = some (.int .i64 zs[k - 1]) := hcell _ hb _ _ (by omega) (intsAt hltm)
        have hr : riseAt zs lo hi k = (inB zs[k] lo hi && decide (zs[k - 1] < zs[k])) := by
          unfold riseAt; rw [getD_eq hltp, getD_eq hltm]
          have : (k == 0) = false := by simp; omega
          rw [this, Bool.false_or]
        have HR := Lib.hid hr; clear hr
        clear hcell
        have hkd : decide (0 < k) = true := by simp; omega
        have hw1 : IntKind.i64.wrap ((k : Int) - 1) = (k : Int) - 1 := IntWalk.i64_in _ (by omega)
        generalize zs[k - 1] = y at *
        generalize zs[k] = z at *
        cases t1 : inB z lo hi
        · go_wp2_with fail
          go_quiet ((go_at_call 124; exact quietS (l00In_is _ (by assumption))))
          clear hc1 hc2 hkd hw1
          go_wp2
          go_returns
          exact RetD.mk (bool_eq (HQ.out (by rw [HR.out, t1]; rfl)).symm) (by first | exact Dr.refl _ | exact Dr.next (by assumption) _ | assumption | exact ⟨_, rfl⟩ | exact ⟨_, World.drewN_drewN _ _ _⟩)
        · by_cases t2 : y < z
          · go_wp2_with fail
            go_quiet ((go_at_call 124; exact quietS (l00In_is _ (by assumption))))
            clear hc1 hc2 hkd hw1
            go_wp2
            go_roundw
            case rel => exact ⟨k + 1, by omega, by go_num, HP.out (by rw [HR.out, t1]; simpa using t2), (by first | exact Dr.refl _ | exact Dr.next (by assumption) _ | assumption | exact ⟨_, rfl⟩ | exact ⟨_, World.drewN_drewN _ _ _⟩)⟩
            case measure => simp [intOf]; omega
          · go_wp2_with fail
            go_quiet ((go_at_call 124; exact quietS (l00In_is _ (by assumption))))
            clear hc1 hc2 hkd hw1
            go_wp2
            go_returns
            exact RetD.mk (bool_eq (HQ.out (by rw [HR.out, t1]; simpa using t2)).symm) (by first | exact Dr.refl _ | exact Dr.next (by assumption) _ | assumption | exact ⟨_, rfl⟩ | exact ⟨_, World.drewN_drewN _ _ _⟩)
    · obtain rfl : k = n := by omega
      go_wp2
      go_returns
      refine RetD.mk (bool_eq ?_) (by first | exact Dr.refl _ | exact Dr.next (by assumption) _ | assumption | exact ⟨_, rfl⟩ | exact ⟨_, World.drewN_drewN _ _ _⟩)
      have e := HX.out
      rw [← HN.out] at e
      exact e.symm

end Go.Proofs.YtgdadbmhdljcdaaGreatDoor

/- Profiles: the law's copy, size, comparison. -/
namespace Go.Proofs.YtgdadbmhdljcdaaGreatDoor
set_option linter.unusedVariables false
open Go.RowKit Go.Proofs.Bell Go.BigFrame

/-- a profile of one's own -/
def RetOwnP (nm : ByteArray) (rs : List (Int × Int × Int)) (w : World) (e : Ending) (w' : World) : Prop :=
  ∃ sv, e = .returned (.agg #[.string nm, sv]) ∧ OwnR w.heap.size w' sv rs ∧ Below w.heap.size w w'

def eqNm (a b : ByteArray) : Bool := decide (a = b)
def eqPr (a b : ByteArray) (rs qs : List (Int × Int × Int)) : Bool := eqNm a b && eqRs rs qs

def leftP (left : Int) (n m : Nat) : Int := if left - n < 0 then -1 else leftOf (left - n) m
theorem leftP_pos {left : Int} {n m : Nat} (h : (n : Int) + m ≤ left) : leftP left n m = left - n - m := by
  unfold leftP leftOf; rw [if_neg (by omega), if_neg (by omega)]
theorem leftP_neg {left : Int} {n m : Nat} (h : left < (n : Int) + m) : leftP left n m = -1 := by
  unfold leftP leftOf; split
  · rfl
  · rw [if_pos (by omega)]

end Go.Proofs.YtgdadbmhdljcdaaGreatDoor

/- The laws' marks on numbers and on profiles. -/
namespace Go.Proofs.YtgdadbmhdljcdaaGreatDoor
set_option linter.unusedVariables false
open Go.RowKit Go.Proofs.Bell Go.BigFrame

/-- the marks of `n` numbers, from `k0` on -/
def mk1 (k0 : Int) (n : Nat) : List Int := (List.range n).map fun i : Nat => k0 + (i : Int)
theorem mk1_len (k0 : Int) (n : Nat) : (mk1 k0 n).length = n := by simp [mk1]
theorem mk1_get {k0 : Int} {n i : Nat} (h : i < (mk1 k0 n).length) : (mk1 k0 n)[i] = k0 + (i : Int) := by simp [mk1]

end Go.Proofs.YtgdadbmhdljcdaaGreatDoor

