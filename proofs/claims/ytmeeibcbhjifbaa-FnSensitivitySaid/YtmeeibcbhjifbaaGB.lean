/- Several texts of the proofs in one: Zones, Cuts, Cuts2, Rings, Prof, Marks. -/
import Derived.Test.YtmeeibcbhjifbaaGA
import Derived.Lib.Hide
/- Zones: rising numbers, whether they are zones, the zone of a ring. -/
namespace Go.Proofs.Ytmeeibcbhjifbaa
set_option linter.unusedVariables false
open Go.RowKit Go.Proofs.Bell Go.BigFrame

theorem range_step {f : Nat → Bool} {k : Nat} (h : (List.range k).all f = true) (h1 : f k = true) : (List.range (k + 1)).all f = true := by
  rw [List.range_succ, List.all_append, h]; simp [h1]
theorem range_false {f : Nat → Bool} {n k : Nat} (hk : k < n) (h1 : f k = false) : (List.range n).all f = false := by
  rw [List.all_eq_false]; exact ⟨k, List.mem_range.2 hk, by rw [h1]; exact Bool.false_ne_true⟩

/-- the number at `k` lies within bounds and is greater than the one before -/
def riseAt (zs : List Int) (lo hi : Int) (k : Nat) : Bool := inB (zs.getD k 0) lo hi && (k == 0 || decide (zs.getD (k - 1) 0 < zs.getD k 0))
def risesB (zs : List Int) (lo hi : Int) : Bool := (List.range zs.length).all (riseAt zs lo hi)
/-- they are zones of `hi + 1` rings -/
def zonesB (zs : List Int) (hi : Int) : Bool := inB zs.length 1 8 && zs.getD 0 0 == 0 && risesB zs 0 hi

theorem getD_eq {zs : List Int} {k : Nat} (h : k < zs.length) : zs.getD k 0 = zs[k] := by simp [List.getD, h]

set_option maxHeartbeats 1600000 in
theorem l00Rises_c (v : Value) (zs : List Int) (lo hi : Int) (w : World) (h : Rd w v zs.length (ints zs)) :
    Calls Try.prog 104 #[v, .int .i64 lo, .int .i64 hi] w (RetD (.bool (risesB zs lo hi)) w) := by
  generalize hn : zs.length = n at h
  have HN := Lib.hid hn; clear hn
  obtain ⟨hn, ao, cap, b, off, rfl, hao, hcell⟩ := h.open
  clear h
  go_enter Try.func104, Try.ntmps104
  go_wp2_with fail
  go_loopw [7] (fun i wr => ∃ (k : Nat), k ≤ n ∧ i = .int .i64 k ∧ (List.range k).all (riseAt zs lo hi) = true ∧ Dr w wr)
    (fun i _ => n - (intOf i).toNat)
  case atStart => exact ⟨0, Nat.zero_le _, rfl, rfl, Dr.refl _⟩
  case round =>
    obtain ⟨k, hk, rfl, hx, hd⟩ := hrel
    have hb := hd.below
    have HX := Lib.hid hx; clear hx
    by_cases hlt : k < n
    · have hltp : k < zs.length := by rw [HN.out]; exact hlt
      have hix := ix (P := Try.prog) (T := 38) (cap := cap) Try.underlying38 cells_int64 has_int64 hao hlt k rfl
      rw [Nat.mul_one] at hix
      have hc1 : wr.cell? ⟨b, off + k, none⟩ = some (.int .i64 zs[k]) := hcell _ hb _ _ (by omega) (intsAt hltp)
      have hp : riseAt zs lo hi k = true → (List.range (k + 1)).all (riseAt zs lo hi) = true := fun h => range_step HX.out h
      have hq : riseAt zs lo hi k = false → risesB zs lo hi = false := fun h => range_false hltp h
      have HP := Lib.hid hp; clear hp
      have HQ := Lib.hid hq; clear hq
      rcases Nat.eq_zero_or_pos k with h0 | h0
      · have hr : riseAt zs lo hi k = inB zs[k] lo hi := by unfold riseAt; rw [getD_eq hltp]; simp [h0]
        have HR := Lib.hid hr; clear hr
        clear hcell
        have hkd : decide (0 < k) = false := by simp; omega
        have H0 := Lib.hid h0; clear h0
        generalize zs[k] = z at *
        cases t1 : inB z lo hi
        · go_wp2_with fail
          go_quiet ((go_at_call 36; exact quietS (l00In_is _ (by assumption))))
          clear hc1 hkd
          go_wp2
          go_returns
          exact RetD.mk (bool_eq (HQ.out (HR.out.trans t1)).symm) (by first | exact Dr.refl _ | exact Dr.next (by assumption) _ | assumption | exact ⟨_, rfl⟩ | exact ⟨_, World.drewN_drewN _ _ _⟩)
        · go_wp2_with fail
          go_quiet ((go_at_call 36; exact quietS (l00In_is _ (by assumption))))
          clear hc1 hkd
          go_wp2
          go_roundw
          case rel => exact ⟨k + 1, by omega, by go_num, HP.out (HR.out.trans t1), (by first | exact Dr.refl _ | exact Dr.next (by assumption) _ | assumption | exact ⟨_, rfl⟩ | exact ⟨_, World.drewN_drewN _ _ _⟩)⟩
          case measure => simp [intOf]; omega
      · have hk1 : k - 1 < n := by omega
        have hltm : k - 1 < zs.length := by omega
        have hix2 := ix (P := Try.prog) (T := 38) (cap := cap) Try.underlying38 cells_int64 has_int64 hao hk1 ((k : Int) - 1) (by omega)
        rw [Nat.mul_one] at hix2
        have hc2 : wr.cell? ⟨b, off + (k - 1), none⟩ = some (.int .i64 zs[k - 1]) := hcell _ hb _ _ (by omega) (intsAt hltm)
        have hr : riseAt zs lo hi k = (inB zs[k] lo hi && decide (zs[k - 1] < zs[k])) := by
          unfold riseAt; rw [getD_eq hltp, getD_eq hltm]
          have : (k == 0) = false := by simp; omega
          rw [this, Bool.false_or]
        have HR := Lib.hid hr; clear hr
        clear hcell
        have hkd : decide (0 < k) = true := by simp; omega
        have hw1 : IntKind.i64.wrap ((k : Int) - 1) = (k : Int) - 1 := IntWalk.i64_in _ (by omega)
        generalize zs[k - 1] = y at *
        generalize zs[k] = z at *
        cases t1 : inB z lo hi
        · go_wp2_with fail
          go_quiet ((go_at_call 36; exact quietS (l00In_is _ (by assumption))))
          clear hc1 hc2 hkd hw1
          go_wp2
          go_returns
          exact RetD.mk (bool_eq (HQ.out (by rw [HR.out, t1]; rfl)).symm) (by first | exact Dr.refl _ | exact Dr.next (by assumption) _ | assumption | exact ⟨_, rfl⟩ | exact ⟨_, World.drewN_drewN _ _ _⟩)
        · by_cases t2 : y < z
          · go_wp2_with fail
            go_quiet ((go_at_call 36; exact quietS (l00In_is _ (by assumption))))
            clear hc1 hc2 hkd hw1
            go_wp2
            go_roundw
            case rel => exact ⟨k + 1, by omega, by go_num, HP.out (by rw [HR.out, t1]; simpa using t2), (by first | exact Dr.refl _ | exact Dr.next (by assumption) _ | assumption | exact ⟨_, rfl⟩ | exact ⟨_, World.drewN_drewN _ _ _⟩)⟩
            case measure => simp [intOf]; omega
          · go_wp2_with fail
            go_quiet ((go_at_call 36; exact quietS (l00In_is _ (by assumption))))
            clear hc1 hc2 hkd hw1
            go_wp2
            go_returns
            exact RetD.mk (bool_eq (HQ.out (by rw [HR.out, t1]; simpa using t2)).symm) (by first | exact Dr.refl _ | exact Dr.next (by assumption) _ | assumption | exact ⟨_, rfl⟩ | exact ⟨_, World.drewN_drewN _ _ _⟩)
    · obtain rfl : k = n := by omega
      go_wp2
      go_returns
      refine RetD.mk (bool_eq ?_) (by first | exact Dr.refl _ | exact Dr.next (by assumption) _ | assumption | exact ⟨_, rfl⟩ | exact ⟨_, World.drewN_drewN _ _ _⟩)
      have e := HX.out
      rw [← HN.out] at e
      exact e.symm

end Go.Proofs.Ytmeeibcbhjifbaa

/- Slices of cuts: the law's copy, size, comparison, marks. -/
namespace Go.Proofs.Ytmeeibcbhjifbaa
set_option linter.unusedVariables false
open Go.RowKit Go.Proofs.Bell Go.BigFrame

def eqP (p q : Int × Int) : Bool := decide (p = q)
theorem info_Cut : (Try.prog.info? 63).map (fun i => (i.zero, i.size, i.bytes)) = some (some (.agg #[.int .i64 0, .int .i64 0]), 2, 16) := by kernel_rfl
theorem cells_Cut : Try.prog.cellsOf 63 = 2 := by kernel_rfl
theorem has_Cut : (Try.prog.info? 63).isSome = true := by kernel_rfl
/-- a slice of one's own that holds these -/
def OwnC (base : Nat) (w : World) (v : Value) (ps : List (Int × Int)) : Prop := w.ownsRow base 63 2 v ps.length (pairs ps)
def RetOwnC (ps : List (Int × Int)) (w : World) (e : Ending) (w' : World) : Prop := ∃ v, e = .returned v ∧ OwnC w.heap.size w' v ps ∧ Below w.heap.size w w'

def eqPs (ps qs : List (Int × Int)) : Bool := decide (ps = qs)
theorem eqPs_refl (ps : List (Int × Int)) : eqPs ps ps = true := decide_eq_true rfl

/-- the marks of `n` of them, from `k0` on -/
def mk2 (k0 : Int) (n : Nat) : List (Int × Int) := (List.range n).map fun i : Nat => (k0 + 2 * (i : Int), k0 + 2 * (i : Int) + 1)
theorem mk2_len (k0 : Int) (n : Nat) : (mk2 k0 n).length = n := by simp [mk2]
theorem mk2_get {k0 : Int} {n i : Nat} (h : i < (mk2 k0 n).length) : (mk2 k0 n)[i] = (k0 + 2 * (i : Int), k0 + 2 * (i : Int) + 1) := by simp [mk2]

end Go.Proofs.Ytmeeibcbhjifbaa

/- Cuts: validity and sums. -/
namespace Go.Proofs.Ytmeeibcbhjifbaa
set_option linter.unusedVariables false
open Go.RowKit Go.Proofs.Bell Go.BigFrame

def cutB (p : Int × Int) : Bool := inB p.1 0 7 && inB p.2 1 20
def cutsB (ps : List (Int × Int)) : Bool := ps.all cutB && decide (ps.length ≤ 64)

theorem all_take_step {α : Type} {p : α → Bool} {xs : List α} {k : Nat} (h : (xs.take k).all p = true) (hk : k < xs.length) (h1 : p xs[k] = true) : (xs.take (k + 1)).all p = true := by
  rw [List.take_succ_eq_append_getElem hk, List.all_append, h]; simp [h1]
theorem all_false_of {α : Type} {p : α → Bool} {xs : List α} {k : Nat} (hk : k < xs.length) (h1 : p xs[k] = false) : xs.all p = false := by
  rw [List.all_eq_false]; exact ⟨xs[k], List.getElem_mem hk, by rw [h1]; exact Bool.false_ne_true⟩

set_option maxHeartbeats 800000 in
theorem l09Cuts_c (v : Value) (ps : List (Int × Int)) (w : World) (h : Rd w v ps.length (pairs ps)) :
    Calls Try.prog 160 #[v] w (RetS (.bool (cutsB ps)) w) := by
  generalize hn : ps.length = n at h
  have HN := Lib.hid hn; clear hn
  obtain ⟨hn, ao, cap, b, off, rfl, hao, hcell⟩ := h.open
  clear h
  go_enter Try.func160, Try.ntmps160
  go_wp2_with fail
  go_loop [3] (fun i => ∃ (k : Nat), k ≤ n ∧ i = .int .i64 k ∧ (ps.take k).all cutB = true) (fun i => n - (intOf i).toNat)
  case atStart => exact ⟨0, Nat.zero_le _, rfl, rfl⟩
  case round =>
    obtain ⟨k, hk, rfl, hx⟩ := hrel
    have HX := Lib.hid hx; clear hx
    by_cases hlt : k < n
    · have hltp : k < ps.length := by rw [HN.out]; exact hlt
      have hix := ix (P := Try.prog) (T := 64) (cap := cap) Try.underlying64 cells_Cut has_Cut hao hlt k rfl
      have hc1 : w.cell? ⟨b, off + k * 2, none⟩ = some (.int .i64 ps[k].1) := hcell _ (Below.refl _ _) _ _ (by omega) (pairs_at hltp).1
      have hc2 : w.cell? ⟨b, off + k * 2 + 1, none⟩ = some (.int .i64 ps[k].2) := hcell _ (Below.refl _ _) _ _ (by omega) (pairs_at hltp).2
      have hp : cutB ps[k] = true → (ps.take (k + 1)).all cutB = true := fun h1 => all_take_step HX.out hltp h1
      have hq : cutB ps[k] = false → cutsB ps = false := fun h => by unfold cutsB; rw [all_false_of hltp h]; rfl
      have HP := Lib.hid hp; clear hp
      have HQ := Lib.hid hq; clear hq
      clear hcell
      generalize ps[k] = p at *
      obtain ⟨z, s⟩ := p
      cases t1 : inB z 0 7
      · go_wp2_with (go_at_call 36; refine (l00In_c _ _ _ _).mono ?_; rintro _ _ ⟨rfl, rfl⟩)
        go_returns
        exact RetS.mk (bool_eq (HQ.out (by simp [cutB, t1])).symm)
      · cases t2 : inB s 1 20
        · go_wp2_with (go_at_call 36; refine (l00In_c _ _ _ _).mono ?_; rintro _ _ ⟨rfl, rfl⟩)
          go_returns
          exact RetS.mk (bool_eq (HQ.out (by simp [cutB, t2])).symm)
        · go_wp2_with (go_at_call 36; refine (l00In_c _ _ _ _).mono ?_; rintro _ _ ⟨rfl, rfl⟩)
          go_round
          case rel => exact ⟨k + 1, by omega, by go_num, HP.out (by simp [cutB, t1, t2])⟩
          case measure => simp [intOf]; omega
    · obtain rfl : k = n := by omega
      go_wp2
      go_returns
      refine RetS.mk (bool_eq ?_)
      have e := HX.out
      rw [List.take_of_length_le (by rw [HN.out]; exact Nat.le_refl _)] at e
      rw [cutsB, e, HN.out]; simp; omega

theorem ValidCuts1_c (p : Int × Int) (w : World) : Calls Try.prog 158 #[.agg #[.int .i64 p.1, .int .i64 p.2]] w (RetB (.bool (!cutB p)) w) := by
  obtain ⟨z, s⟩ := p
  cases t1 : inB z 0 7 <;>
  · go_enter Try.func158, Try.ntmps158
    go_wp2_with (go_at_call 42; refine (within_c _ _ _ _).mono ?_; rintro _ _ ⟨rfl, rfl⟩)
    go_returns
    refine RetB.mk (bool_eq (by simp [cutB, t1])) ?_
    go_grown

/-- where the first element lies that meets `p`; -1 where there is none -/
def findI {α : Type} (p : α → Bool) (xs : List α) : Int := match xs.findIdx? p with | some k => k | none => -1
theorem findI_none {α : Type} {p : α → Bool} {xs : List α} (h : xs.all (fun x => !p x) = true) : findI p xs = -1 := by
  unfold findI
  rw [List.findIdx?_eq_none_iff.2 (fun x hx => by simpa using List.all_eq_true.1 h x hx)]
theorem findI_some {α : Type} {p : α → Bool} {xs : List α} {k : Nat} (h : (xs.take k).all (fun x => !p x) = true) (hk : k < xs.length) (h1 : p xs[k] = true) : findI p xs = k := by
  unfold findI
  have : xs.findIdx? p = some k := by
    rw [List.findIdx?_eq_some_iff_getElem]
    refine ⟨hk, h1, fun j hj => ?_⟩
    have := List.all_eq_true.1 h xs[j] (by rw [List.mem_take_iff_getElem]; exact ⟨j, by omega, rfl⟩)
    simpa using this
  rw [this]
theorem findI_lt {α : Type} {p : α → Bool} {xs : List α} : findI p xs < 0 ↔ xs.any p = false := by
  unfold findI
  cases h : xs.findIdx? p with
  | none => simp only [List.findIdx?_eq_none_iff] at h; simp [List.any_eq_false]; exact h
  | some k =>
    rw [List.findIdx?_eq_some_iff_getElem] at h
    obtain ⟨hk, h1, _⟩ := h
    simp only [List.any_eq_false]
    constructor
    · intro h; omega
    · intro h; exact absurd h1 (h _ (List.getElem_mem hk))

set_option maxHeartbeats 800000 in
theorem IndexFuncCut_c (g : Nat) (cs : Array Value) (p : Int × Int → Bool) (v : Value) (ps : List (Int × Int)) (w : World) (h : Rd w v ps.length (pairs ps))
    (hcall : ∀ (args : Array Value) (w : World), (callFunc g args).run Try.prog w = .ok (.enter g args) w)
    (hg : ∀ x, x ∈ ps → ∀ w', Below w.heap.size w w' → Calls Try.prog g (#[.agg #[.int .i64 x.1, .int .i64 x.2]] ++ cs) w' (RetB (.bool (p x)) w')) :
    Calls Try.prog 159 #[v, .func (.func g) #[] cs] w (RetB (.int .i64 (findI p ps)) w) := by
  generalize hn : ps.length = n at h
  have HN := Lib.hid hn; clear hn
  have HG := Lib.hid hg; clear hg
  obtain ⟨hn, ao, cap, b, off, rfl, hao, hcell⟩ := h.open
  clear h
  go_enter Try.func159, Try.ntmps159
  go_wp2_with fail
  go_loopw [8] (fun i wr => ∃ (k : Nat), k ≤ n ∧ i = .int .i64 k ∧ (ps.take k).all (fun x => !p x) = true ∧ Below w.heap.size w wr) (fun i _ => n - (intOf i).toNat)
  case atStart => exact ⟨0, Nat.zero_le _, rfl, rfl, Below.refl _ _⟩
  case round =>
    obtain ⟨k, hk, rfl, hx, hb⟩ := hrel
    have HX := Lib.hid hx; clear hx
    by_cases hlt : k < n
    · have hltp : k < ps.length := by rw [HN.out]; exact hlt
      have hix := ix (P := Try.prog) (T := 64) (cap := cap) Try.underlying64 cells_Cut has_Cut hao hlt k rfl
      have hc1 : wr.cell? ⟨b, off + k * 2, none⟩ = some (.int .i64 ps[k].1) := hcell _ hb _ _ (by omega) (pairs_at hltp).1
      have hc2 : wr.cell? ⟨b, off + k * 2 + 1, none⟩ = some (.int .i64 ps[k].2) := hcell _ hb _ _ (by omega) (pairs_at hltp).2
      have hgk := HG.out ps[k] (List.getElem_mem hltp) wr hb
      have HGK := Lib.hid hgk; clear hgk
      have hp : p ps[k] = false → (ps.take (k + 1)).all (fun x => !p x) = true := fun h1 => all_take_step HX.out hltp (by rw [h1]; rfl)
      have hq : p ps[k] = true → findI p ps = k := fun h => findI_some HX.out hltp h
      have HP := Lib.hid hp; clear hp
      have HQ := Lib.hid hq; clear hq
      clear hcell
      generalize ps[k] = x at *
      go_wp2_with fail
      refine HGK.out.mono ?_
      rintro _ w1 ⟨rfl, hb1⟩
      have hb2 := hb.trans (hb1.mono hb.size)
      cases t1 : p x
      · go_wp2
        go_roundw
        case rel => exact ⟨k + 1, by omega, by go_num, HP.out t1, hb2⟩
        case measure => simp [intOf]; omega
      · go_wp2
        go_returns
        exact RetB.mk (int_eq (HQ.out t1).symm) hb2
    · obtain rfl : k = n := by omega
      go_wp2
      go_returns
      refine RetB.mk (int_eq ?_) hb
      have e := HX.out
      rw [List.take_of_length_le (by rw [HN.out]; exact Nat.le_refl _)] at e
      exact (findI_none e).symm

theorem ContainsFuncCut_c (g : Nat) (cs : Array Value) (p : Int × Int → Bool) (v : Value) (ps : List (Int × Int)) (w : World) (h : Rd w v ps.length (pairs ps))
    (hcall : ∀ (args : Array Value) (w : World), (callFunc g args).run Try.prog w = .ok (.enter g args) w)
    (hg : ∀ x, x ∈ ps → ∀ w', Below w.heap.size w w' → Calls Try.prog g (#[.agg #[.int .i64 x.1, .int .i64 x.2]] ++ cs) w' (RetB (.bool (p x)) w')) :
    Calls Try.prog 128 #[v, .func (.func g) #[] cs] w (RetB (.bool (ps.any p)) w) := by
  have hf := findI_lt (p := p) (xs := ps)
  have HF := Lib.hid hf; clear hf
  have HG := Lib.hid hg; clear hg
  have HC := Lib.hid hcall; clear hcall
  have hi := IndexFuncCut_c g cs p v ps w h HC.out HG.out
  have HI := Lib.hid hi; clear hi
  generalize findI p ps = fi at *
  by_cases h0 : fi < 0
  · go_enter Try.func128, Try.ntmps128
    go_wp2_with (go_at_call 159; refine HI.out.mono ?_; rintro _ w1 ⟨rfl, hb1⟩)
    go_returns
    exact RetB.mk (bool_eq (by rw [HF.out.1 h0] <;> simp <;> omega)) ‹_›
  · have h1 : ps.any p = true := by
      cases h : ps.any p
      · exact absurd (HF.out.2 h) h0
      · rfl
    have H1 := Lib.hid h1; clear h1
    go_enter Try.func128, Try.ntmps128
    go_wp2_with (go_at_call 159; refine HI.out.mono ?_; rintro _ w1 ⟨rfl, hb1⟩)
    go_returns
    exact RetB.mk (bool_eq (by rw [H1.out] <;> simp <;> omega)) ‹_›

theorem any_not {α : Type} (p : α → Bool) (xs : List α) : xs.any (fun x => !p x) = !xs.all p := by
  induction xs with
  | nil => rfl
  | cons x xs ih => simp [ih, Bool.not_and]

theorem ValidCuts_c (v : Value) (ps : List (Int × Int)) (w : World) (h : Rd w v ps.length (pairs ps)) :
    Calls Try.prog 126 #[v] w (RetB (.bool (cutsB ps)) w) := by
  have hi := ContainsFuncCut_c 158 #[] (fun x => !cutB x) v ps w h (enters Try.func158 (by kernel_rfl) rfl) (fun x _ w' _ => ValidCuts1_c x w')
  have HI := Lib.hid hi; clear hi
  obtain ⟨hn, ao, cap, b, off, rfl, hao, hcell⟩ := h.open
  clear hcell
  by_cases hl : ps.length ≤ 64
  · go_enter Try.func126, Try.ntmps126
    go_wp2_with (go_at_call 128; refine HI.out.mono ?_; rintro _ w1 ⟨rfl, hb1⟩)
    go_returns
    exact RetB.mk (bool_eq (by rw [cutsB, any_not]; simp [hl])) ‹_›
  · go_enter Try.func126, Try.ntmps126
    go_wp2
    go_returns
    exact RetB.mk (bool_eq (by rw [cutsB]; simp; omega)) (Below.refl _ _)

end Go.Proofs.Ytmeeibcbhjifbaa

/- Slices of rings: the law's copy, size, comparison, marks. -/
namespace Go.Proofs.Ytmeeibcbhjifbaa
set_option linter.unusedVariables false
open Go.RowKit Go.Proofs.Bell Go.BigFrame

theorem toRing_c (a b c : Int) (w : World) : Calls Try.prog 94 #[.agg #[.int .i64 a, .int .i64 b, .int .i64 c]] w (RetB (.agg #[.int .i64 a, .int .i64 b, .int .i64 c]) w) := by
  go_enter Try.func94, Try.ntmps94
  go_wp2
  go_returns
  refine RetB.mk rfl ?_
  go_grown

def eqR (p q : Int × Int × Int) : Bool := decide (p = q)
theorem eqRing_c (p q : Int × Int × Int) (w : World) : Calls Try.prog 103 #[.agg #[.int .i64 p.1, .int .i64 p.2.1, .int .i64 p.2.2], .agg #[.int .i64 q.1, .int .i64 q.2.1, .int .i64 q.2.2]] w (RetB (.bool (eqR p q)) w) := by
  obtain ⟨a, b, c⟩ := p
  obtain ⟨d, e, f⟩ := q
  by_cases h0 : a = d <;> by_cases h1 : b = e <;> by_cases h2 : c = f <;>
  · go_enter Try.func103, Try.ntmps103
    go_wp2
    go_returns
    refine RetB.mk (bool_eq (by simp [eqR, h0, h1, h2])) ?_
    go_grown

theorem szRingS_c (v : Value) (n : Nat) (xs : List Value) (left : Int) (w : World) (h : Rd w v n xs) (_h1 : 0 ≤ left) (_h2 : left ≤ 9223372036854775807) :
    Calls Try.prog 33 #[v, .int .i64 left] w (RetS (.int .i64 (leftOf left n)) w) := by
  obtain ⟨hn, ao, cap, b, off, rfl, hao, hcell⟩ := h.open
  clear hcell hao h
  by_cases hl : left - n < 0 <;>
  · go_enter Try.func33, Try.ntmps33
    go_wp2
    go_returns
    exact RetS.mk (int_eq (by unfold leftOf; split <;> omega))

theorem info_Ring : (Try.prog.info? 135).map (fun i => (i.zero, i.size, i.bytes)) = some (some (.agg #[.int .i64 0, .int .i64 0, .int .i64 0]), 3, 24) := by kernel_rfl
theorem cells_Ring : Try.prog.cellsOf 135 = 3 := by kernel_rfl
theorem has_Ring : (Try.prog.info? 135).isSome = true := by kernel_rfl
theorem cells_lRing : Try.prog.cellsOf 139 = 3 := by kernel_rfl
theorem has_lRing : (Try.prog.info? 139).isSome = true := by kernel_rfl

/-- a slice of one's own that holds these -/
def OwnR (base : Nat) (w : World) (v : Value) (ps : List (Int × Int × Int)) : Prop := w.ownsRow base 135 3 v ps.length (trips ps)
def RetOwnR (ps : List (Int × Int × Int)) (w : World) (e : Ending) (w' : World) : Prop := ∃ v, e = .returned v ∧ OwnR w.heap.size w' v ps ∧ Below w.heap.size w w'

set_option maxHeartbeats 800000 in
theorem toRingS_c (v : Value) (ps : List (Int × Int × Int)) (w : World) (h : Rd w v ps.length (trips ps)) (hsz : ps.length * 24 ≤ 140737488351232) :
    Calls Try.prog 39 #[v] w (RetOwnR ps w) := by
  obtain ⟨i0, hi, hz0, hz1, hz2⟩ := info_parts info_Ring
  obtain ⟨hn, ao, cap, b, off, rfl, hao, hcell⟩ := h.open
  go_enter Try.func39, Try.ntmps39
  go_wp2_with (at_make; refine wpList_make_full _ rfl _ _ 29 rfl w.heap.size 135 i0 (.agg #[.int .i64 0, .int .i64 0, .int .i64 0]) 3 Try.underlying29 hi hz0 hz1 _ _ _ _ ps.length rfl rfl (by omega) (by omega) ?b2 ?b3 (Nat.le_refl _) ?_)
  case b2 => rw [hz2]; omega
  case b3 => unfold maxLen; omega
  intro w0 hown0 hg0
  have hb0 : Below w.heap.size w w0 := (Below.refl _ _).grown hg0 (Nat.le_refl _) (fun k h => by cases h)
  go_wp2
  go_loopw [4] (fun i wr => ∃ (k : Nat) (xs : List Value), k ≤ ps.length ∧ i = .int .i64 k ∧ wr.ownsRow w.heap.size 135 3 (.slice (some ⟨w.heap.size, 0, none⟩) ps.length ps.length) ps.length xs ∧ (∀ j, j < k * 3 → xs[j]? = (trips ps)[j]?) ∧ Below w.heap.size w wr)
    (fun i _ => ps.length - (intOf i).toNat)
  case atStart => exact ⟨0, _, Nat.zero_le _, rfl, hown0, fun j h => by omega, hb0⟩
  case round =>
    obtain ⟨k, xs, hk, rfl, hown, hx, hb⟩ := hrel
    by_cases hlt : k < ps.length
    · have hix := ix (P := Try.prog) (T := 22) (cap := cap) Try.underlying22 cells_lRing has_lRing hao hlt k rfl
      have hc := trips_at hlt
      have hc0 := hcell _ hb _ _ (by omega) hc.1
      have hc1 := hcell _ hb _ _ (by omega) hc.2.1
      rw [← Nat.add_assoc] at hc1
      have hc2 := hcell _ hb _ _ (by omega) hc.2.2
      rw [← Nat.add_assoc] at hc2
      have HC := Lib.hid hc; clear hc
      have HX := Lib.hid hx; clear hx
      clear hcell
      go_wp2_with (go_at_call 94; refine (toRing_c _ _ _ _).mono ?_; rintro _ w1 ⟨rfl, hb1⟩; have hown1 := own_later hown hb1; have hf0 := hown1.frozenAt (k * 3); have hg0 := hown1.cellAt (k * 3) (by omega); obtain ⟨u0, hu0⟩ : ∃ u, xs[k * 3]? = some u := ⟨_, List.getElem?_eq_getElem (by have := hown1.1; omega)⟩; rw [hu0] at hg0; have hf1 := hown1.frozenAt (k * 3 + 1); have hg1 := hown1.cellAt (k * 3 + 1) (by omega); obtain ⟨u1, hu1⟩ : ∃ u, xs[k * 3 + 1]? = some u := ⟨_, List.getElem?_eq_getElem (by have := hown1.1; omega)⟩; rw [hu1] at hg1; have hf2 := hown1.frozenAt (k * 3 + 2); have hg2 := hown1.cellAt (k * 3 + 2) (by omega); obtain ⟨u2, hu2⟩ : ∃ u, xs[k * 3 + 2]? = some u := ⟨_, List.getElem?_eq_getElem (by have := hown1.1; omega)⟩; rw [hu2] at hg2)
      go_roundw
      case rel =>
        have hl := hown.1
        exact ⟨k + 1, _, by omega, by go_num, ((((own_later hown ‹Below wr.heap.size wr w1›).stored _ _).1.stored _ _).1.stored _ _).1, set3_upto HX.out (by omega) HC.out.1 HC.out.2.1 HC.out.2.2, ((((hb.trans (‹Below wr.heap.size wr w1›.mono hb.size)).setCell (Nat.le_refl _) _).setCell (Nat.le_refl _) _).setCell (Nat.le_refl _) _)⟩
      case measure => simp [intOf]; omega
    · obtain rfl : k = ps.length := by omega
      go_wp2
      go_returns
      have e := upto_all (hown.1.trans (trips_len ps).symm) (fun j hj => hx j (by rw [← trips_len]; exact hj))
      subst e
      exact ⟨_, rfl, hown, hb⟩

def eqRs (ps qs : List (Int × Int × Int)) : Bool := decide (ps = qs)
theorem eqRs_refl (ps : List (Int × Int × Int)) : eqRs ps ps = true := decide_eq_true rfl

set_option maxHeartbeats 800000 in
theorem eqRingS_c (v v' : Value) (ps qs : List (Int × Int × Int)) (w : World) (h : Rd w v ps.length (trips ps)) (h' : Rd w v' qs.length (trips qs)) :
    Calls Try.prog 46 #[v, v'] w (RetB (.bool (eqRs ps qs)) w) := by
  generalize hn : ps.length = n at h
  generalize hm : qs.length = m at h'
  have HN := Lib.hid hn; clear hn
  have HM := Lib.hid hm; clear hm
  obtain ⟨hn, ao, cap, b, off, rfl, hao, hcell⟩ := h.open
  obtain ⟨hn', ao', cap', b', off', rfl, hao', hcell'⟩ := h'.open
  clear h h'
  by_cases hlen : n = m
  · subst hlen
    go_enter Try.func46, Try.ntmps46
    go_wp2_with fail
    go_loopw [5] (fun i wr => ∃ (k : Nat), k ≤ n ∧ i = .int .i64 k ∧ ps.take k = qs.take k ∧ Below w.heap.size w wr)
      (fun i _ => n - (intOf i).toNat)
    case atStart => exact ⟨0, Nat.zero_le _, rfl, rfl, Below.refl _ _⟩
    case round =>
      obtain ⟨k, hk, rfl, hx, hb⟩ := hrel
      have HX := Lib.hid hx; clear hx
      by_cases hlt : k < n
      · have hltp : k < ps.length := by rw [HN.out]; exact hlt
        have hltq : k < qs.length := by rw [HM.out]; exact hlt
        have hix := ix (P := Try.prog) (T := 29) (cap := cap) Try.underlying29 cells_Ring has_Ring hao hlt k rfl
        have hix' := ix (P := Try.prog) (T := 29) (cap := cap') Try.underlying29 cells_Ring has_Ring hao' hlt k rfl
        have hc0 : ∀ s : Lat wr, s.world.cell? ⟨b, off + k * 3, none⟩ = some (.int .i64 ps[k].1) := fun s => hcell _ (hb.trans (s.below.mono hb.size)) _ _ (by omega) (trips_at hltp).1
        have hc1 : ∀ s : Lat wr, s.world.cell? ⟨b, off + k * 3 + 1, none⟩ = some (.int .i64 ps[k].2.1) := fun s => hcell _ (hb.trans (s.below.mono hb.size)) _ _ (by omega) (trips_at hltp).2.1
        have hc2 : ∀ s : Lat wr, s.world.cell? ⟨b, off + k * 3 + 2, none⟩ = some (.int .i64 ps[k].2.2) := fun s => hcell _ (hb.trans (s.below.mono hb.size)) _ _ (by omega) (trips_at hltp).2.2
        have hd0 : ∀ s : Lat wr, s.world.cell? ⟨b', off' + k * 3, none⟩ = some (.int .i64 qs[k].1) := fun s => hcell' _ (hb.trans (s.below.mono hb.size)) _ _ (by omega) (trips_at hltq).1
        have hd1 : ∀ s : Lat wr, s.world.cell? ⟨b', off' + k * 3 + 1, none⟩ = some (.int .i64 qs[k].2.1) := fun s => hcell' _ (hb.trans (s.below.mono hb.size)) _ _ (by omega) (trips_at hltq).2.1
        have hd2 : ∀ s : Lat wr, s.world.cell? ⟨b', off' + k * 3 + 2, none⟩ = some (.int .i64 qs[k].2.2) := fun s => hcell' _ (hb.trans (s.below.mono hb.size)) _ _ (by omega) (trips_at hltq).2.2
        have hp : ps.take k = qs.take k → eqR ps[k] qs[k] = true → ps.take (k + 1) = qs.take (k + 1) := fun h1 h2 => take_step h1 hltp hltq (of_decide_eq_true h2)
        have hq : eqR ps[k] qs[k] = false → eqRs ps qs = false := fun h => by
          refine decide_eq_false fun e => of_decide_eq_false h ?_
          subst e; rfl
        have HP := Lib.hid hp; clear hp
        have HQ := Lib.hid hq; clear hq
        clear hcell hcell'
        generalize ps[k] = p at *
        generalize qs[k] = q at *
        go_wp2_with fail
        refine wp_region_lat (by kernel_rfl) (by kernel_rfl) ?_
        repeat (go_big_quiet_step ((go_at_call 103; exact Lat.callB (eqRing_c _ _ _))))
        refine wpQuiet_nil ?_
        rintro _ ⟨s, rfl⟩
        have hbs := hb.trans (s.below.mono hb.size)
        generalize s.world = ws at *
        clear hc0 hd0 hc1 hd1 hc2 hd2
        cases hpq : eqR p q
        · go_wp2
          go_returns
          exact RetB.mk (bool_eq (HQ.out hpq).symm) hbs
        · go_wp2
          go_roundw
          case rel => exact ⟨k + 1, by omega, by go_num, HP.out HX.out hpq, hbs⟩
          case measure => simp [intOf]; omega
      · obtain rfl : k = n := by omega
        go_wp2
        go_returns
        refine RetB.mk (bool_eq ?_) hb
        have e := HX.out
        rw [List.take_of_length_le (by rw [HN.out]; exact Nat.le_refl _), List.take_of_length_le (by rw [HM.out]; exact Nat.le_refl _)] at e
        exact (decide_eq_true e).symm
  · go_enter Try.func46, Try.ntmps46
    go_wp2
    go_returns
    refine RetB.mk (bool_eq (decide_eq_false ?_).symm) (Below.refl _ _)
    rintro rfl
    exact hlen (HN.out.symm.trans HM.out)

/-- the marks of `n` of them, from `k0` on -/
def mk3 (k0 : Int) (n : Nat) : List (Int × Int × Int) := (List.range n).map fun i : Nat => (k0 + 3 * (i : Int), k0 + 3 * (i : Int) + 1, k0 + 3 * (i : Int) + 2)
theorem mk3_len (k0 : Int) (n : Nat) : (mk3 k0 n).length = n := by simp [mk3]
theorem mk3_get {k0 : Int} {n i : Nat} (h : i < (mk3 k0 n).length) : (mk3 k0 n)[i] = (k0 + 3 * (i : Int), k0 + 3 * (i : Int) + 1, k0 + 3 * (i : Int) + 2) := by simp [mk3]

set_option maxHeartbeats 1600000 in
theorem markRingS_c (v : Value) (n base : Nat) (k0 : Int) (xs0 : List Value) (w : World) (h : w.ownsRow base 135 3 v n xs0) (hk0 : 0 ≤ k0) (hk1 : k0 + 3 * (n : Int) ≤ 9223372036854775800) (hn : n ≤ 1000000000000000000) :
    Calls Try.prog 47 #[v, .int .i64 k0] w (fun e w' => e = .returned (.int .i64 (k0 + 3 * (n : Int))) ∧ w'.ownsRow base 135 3 v n (trips (mk3 k0 n)) ∧ Only (fun b => v.ownBlock = some b) w w') := by
  refine Calls.mono (R := Marked v n (k0 + 3 * (n : Int)) base 135 3 (trips (mk3 k0 n)) w) ?_ (fun e w' h => h)
  obtain ⟨ao, cap, g, hv, hao, hvb⟩ := own_open h
  have HVB := Lib.hid hvb; clear hvb
  subst hv
  go_enter Try.func47, Try.ntmps47
  go_wp2_with fail
  go_loopw [1, 5] (fun q i wr => ∃ (k : Nat) (xs : List Value), k ≤ n ∧ i = .int .i64 k ∧ q = .int .i64 (k0 + 3 * (k : Int)) ∧ wr.ownsRow base 135 3 (.slice ao n cap) n xs ∧ (∀ j, j < k * 3 → xs[j]? = (trips (mk3 k0 n))[j]?) ∧ Only (fun b => (Value.slice ao n cap).ownBlock = some b) w wr)
    (fun _ i _ => n - (intOf i).toNat)
  case atStart => exact ⟨0, xs0, Nat.zero_le _, rfl, by simp, h, fun j hj => by omega, Only.refl _ _⟩
  case round =>
    obtain ⟨k, xs, hk, rfl, rfl, hown, hx, ho⟩ := hrel
    have HX := Lib.hid hx; clear hx
    by_cases hlt : k < n
    · have hix := ix (P := Try.prog) (T := 29) (cap := cap) Try.underlying29 cells_Ring has_Ring hao hlt k rfl
      simp only [Nat.zero_add] at hix
      obtain ⟨⟨u0, c0⟩, f0, _, hs0⟩ := own_cell hown hao (j := k * 3) (by omega)
      obtain ⟨⟨u1, c1⟩, f1, _, hs1⟩ := own_cell hown hao (j := k * 3 + 1) (by omega)
      obtain ⟨⟨u2, c2⟩, f2, _, hs2⟩ := own_cell hown hao (j := k * 3 + 2) (by omega)
      have hl := hown.1
      have HO := Lib.hid ho; clear ho
      have HAO := Lib.hid hao; clear hao
      have HOWN := Lib.hid hown; clear hown
      clear h
      go_wp2
      go_roundw
      case rel =>
        have hao := HAO.out
        have ho := HO.out
        have hvb := HVB.out
        have hm : k < (mk3 k0 n).length := by rw [mk3_len]; exact hlt
        have hat := trips_at hm
        rw [mk3_get hm] at hat
        have o1 := hs0 (.int .i64 (k0 + 3 * (k : Int)))
        have o2 := (own_cell o1 hao (j := k * 3 + 1) (by omega)).2.2.2 (.int .i64 (k0 + 3 * (k : Int) + 1))
        have o3 := (own_cell o2 hao (j := k * 3 + 2) (by omega)).2.2.2 (.int .i64 (k0 + 3 * (k : Int) + 1 + 1))
        exact ⟨k + 1, _, by omega, by go_num, int_eq (by omega), o3, set3_upto HX.out (by omega) hat.1 hat.2.1 (by rw [hat.2.2, show k0 + 3 * (k : Int) + 2 = k0 + 3 * (k : Int) + 1 + 1 by omega]), (((ho.setCell (hvb (by omega)) _).setCell (hvb (by omega)) _).setCell (hvb (by omega)) _)⟩
      case measure => simp [intOf]; omega
    · obtain rfl : k = n := by omega
      go_wp2
      go_returns
      have e := upto_all (hown.1.trans (by rw [trips_len, mk3_len])) (fun j hj => HX.out j (by rw [trips_len, mk3_len] at hj; exact hj))
      subst e
      exact ⟨rfl, hown, ho⟩

set_option maxHeartbeats 1600000 in
theorem heldRingS_c (v : Value) (n : Nat) (k0 : Int) (w : World) (h : Rd w v n (trips (mk3 k0 n))) (hk0 : 0 ≤ k0) (hk1 : k0 + 3 * (n : Int) ≤ 9223372036854775800) :
    Calls Try.prog 49 #[v, .int .i64 k0] w (RetS (.int .i64 (k0 + 3 * (n : Int))) w) := by
  obtain ⟨hn, ao, cap, b, off, rfl, hao, hcell⟩ := h.open
  clear h
  go_enter Try.func49, Try.ntmps49
  go_wp2_with fail
  go_loop [1, 5] (fun q i => ∃ (k : Nat), k ≤ n ∧ i = .int .i64 k ∧ q = .int .i64 (k0 + 3 * (k : Int))) (fun _ i => n - (intOf i).toNat)
  case atStart => exact ⟨0, Nat.zero_le _, rfl, by simp⟩
  case round =>
    obtain ⟨k, hk, rfl, rfl⟩ := hrel
    by_cases hlt : k < n
    · have hix := ix (P := Try.prog) (T := 29) (cap := cap) Try.underlying29 cells_Ring has_Ring hao hlt k rfl
      have hm : k < (mk3 k0 n).length := by rw [mk3_len]; exact hlt
      have hc0 : w.cell? ⟨b, off + k * 3, none⟩ = some (.int .i64 (k0 + 3 * (k : Int))) := by rw [hcell _ (Below.refl _ _) _ _ (by omega) (trips_at hm).1, mk3_get hm]
      have hc1 : w.cell? ⟨b, off + k * 3 + 1, none⟩ = some (.int .i64 (k0 + 3 * (k : Int) + 1)) := by rw [Nat.add_assoc, hcell _ (Below.refl _ _) _ _ (by omega) (trips_at hm).2.1, mk3_get hm]
      have hc2 : w.cell? ⟨b, off + k * 3 + 2, none⟩ = some (.int .i64 (k0 + 3 * (k : Int) + 2)) := by rw [Nat.add_assoc, hcell _ (Below.refl _ _) _ _ (by omega) (trips_at hm).2.2, mk3_get hm]
      clear hcell hm
      go_wp2
      go_round
      case rel => exact ⟨k + 1, by omega, by go_num, int_eq (by omega)⟩
      case measure => simp [intOf]; omega
    · obtain rfl : k = n := by omega
      clear hcell
      go_wp2
      go_returns
      exact RetS.mk rfl

end Go.Proofs.Ytmeeibcbhjifbaa

/- Profiles: the law's copy, size, comparison. -/
namespace Go.Proofs.Ytmeeibcbhjifbaa
set_option linter.unusedVariables false
open Go.RowKit Go.Proofs.Bell Go.BigFrame

/-- a profile of one's own -/
def RetOwnP (nm : ByteArray) (rs : List (Int × Int × Int)) (w : World) (e : Ending) (w' : World) : Prop :=
  ∃ sv, e = .returned (.agg #[.string nm, sv]) ∧ OwnR w.heap.size w' sv rs ∧ Below w.heap.size w w'

set_option maxHeartbeats 800000 in
theorem toProfile_c (nm : ByteArray) (sv : Value) (rs : List (Int × Int × Int)) (w : World) (h : Rd w sv rs.length (trips rs)) (hsz : rs.length * 24 ≤ 140737488351232) :
    Calls Try.prog 9 #[.agg #[.string nm, sv]] w (RetOwnP nm rs w) := by
  have ht : ∀ w', Below w.heap.size w w' → Calls Try.prog 39 #[sv] w' (RetOwnR rs w') := fun w' hb => toRingS_c sv rs w' (h.later hb) hsz
  have HT := Lib.hid ht; clear ht
  obtain ⟨hn, ao, cap, b, off, rfl, hao, hcell⟩ := h.open
  clear h hao hcell
  go_enter Try.func9, Try.ntmps9
  go_wp2_with fail
  refine (HT.out _ (by go_grown)).mono ?_
  rintro _ w1 ⟨v1, rfl, hown, hb⟩
  have hs := hb.size
  simp only [World.size_alloc] at hs
  obtain ⟨ao1, cap1, g1, rfl, _, _⟩ := own_open hown
  have k0 := below_cell hb (p := ⟨w.heap.size + 1, 0, none⟩) (v := .string ⟨#[]⟩) (by simp [go_sem])
  have k1 := below_cell hb (p := ⟨w.heap.size + 1, 1, none⟩) (v := .slice none 0 0) (by simp [go_sem])
  have k2 := below_cell hb (p := ⟨w.heap.size + 1 + 1, 0, none⟩) (v := .string nm) (by simp [go_sem])
  have k3 := below_cell hb (p := ⟨w.heap.size + 1 + 1, 1, none⟩) (v := .slice none 0 0) (by simp [go_sem])
  have f0 : w1.frozen? ⟨w.heap.size + 1, 0, none⟩ = false := (hb.frozen (p := ⟨w.heap.size + 1, 0, none⟩) (by simp [go_sem])).trans (by simp [go_sem])
  have f1 : w1.frozen? ⟨w.heap.size + 1, 1, none⟩ = false := (hb.frozen (p := ⟨w.heap.size + 1, 1, none⟩) (by simp [go_sem])).trans (by simp [go_sem])
  have f3 : w1.frozen? ⟨w.heap.size + 1 + 1, 1, none⟩ = false := (hb.frozen (p := ⟨w.heap.size + 1 + 1, 1, none⟩) (by simp [go_sem])).trans (by simp [go_sem])
  have hb3 : Below w.heap.size w w1 := Below.trans (by go_grown) (hb.mono (by simp; omega))
  clear hb
  have hown' : OwnR (w.heap.size + 3) w1 (.slice ao1 rs.length cap1) rs := own_base hown (by simp)
  have HO := Lib.hid hown'; clear hown'
  clear hown
  go_wp2
  refine bodyPost_ret (v := .agg #[.string nm, .slice ao1 rs.length cap1]) (by simp [results, Try.results9, go_sem, k0, k1, k2, k3]) rfl ?_
  refine ⟨_, rfl, own_base (ownsRow_setCell_below (ownsRow_setCell_below (ownsRow_setCell_below HO.out ?_ _) ?_ _) ?_ _) (by omega), (((hb3.setCell ?_ _).setCell ?_ _).setCell ?_ _)⟩
  all_goals (simp; try omega)

def eqNm (a b : ByteArray) : Bool := decide (a = b)
def eqPr (a b : ByteArray) (rs qs : List (Int × Int × Int)) : Bool := eqNm a b && eqRs rs qs

set_option maxHeartbeats 800000 in
theorem eqProfile_c (a b : ByteArray) (sv sv' : Value) (rs qs : List (Int × Int × Int)) (w : World) (h : Rd w sv rs.length (trips rs)) (h' : Rd w sv' qs.length (trips qs)) :
    Calls Try.prog 12 #[.agg #[.string a, sv], .agg #[.string b, sv']] w (RetB (.bool (eqPr a b rs qs)) w) := by
  have ht : ∀ w', Below w.heap.size w w' → Calls Try.prog 46 #[sv, sv'] w' (RetB (.bool (eqRs rs qs)) w') := fun w' hb => eqRingS_c sv sv' rs qs w' (h.later hb) (h'.later hb)
  have HT := Lib.hid ht; clear ht
  obtain ⟨hn, ao, cap, b1, off, rfl, hao, hcell⟩ := h.open
  obtain ⟨hn', ao', cap', b1', off', rfl, hao', hcell'⟩ := h'.open
  clear h hao hcell h' hao' hcell'
  by_cases hnm : a = b
  · subst hnm
    cases hq : eqRs rs qs <;>
    · rw [hq] at HT
      go_enter Try.func12, Try.ntmps12
      go_wp2_with (go_at_call 46; refine (HT.out _ (by go_grown)).mono ?_; rintro _ w1 ⟨rfl, hb⟩)
      go_returns
      exact RetB.mk (bool_eq (by simp [eqPr, eqNm, hq])) (Below.trans (by go_grown) (hb.mono (by simp; omega)))
  · have hnb := name_ne hnm
    have hne : eqPr a b rs qs = false := by simp [eqPr, eqNm, hnm]
    have HNE := Lib.hid hne; clear hne
    clear hnm
    go_enter Try.func12, Try.ntmps12
    go_wp2
    go_returns
    exact RetB.mk (bool_eq HNE.out.symm) (by go_grown)

def leftP (left : Int) (n m : Nat) : Int := if left - n < 0 then -1 else leftOf (left - n) m
theorem leftP_pos {left : Int} {n m : Nat} (h : (n : Int) + m ≤ left) : leftP left n m = left - n - m := by
  unfold leftP leftOf; rw [if_neg (by omega), if_neg (by omega)]
theorem leftP_neg {left : Int} {n m : Nat} (h : left < (n : Int) + m) : leftP left n m = -1 := by
  unfold leftP leftOf; split
  · rfl
  · rw [if_pos (by omega)]

theorem szProfile_c (nm : ByteArray) (sv : Value) (n : Nat) (xs : List Value) (left : Int) (w : World) (hnm : nm.size ≤ maxLen) (h : Rd w sv n xs) (h1 : 0 ≤ left) (h2 : left ≤ 9223372036854775807) :
    Calls Try.prog 7 #[.agg #[.string nm, sv], .int .i64 left] w (RetB (.int .i64 (leftP left nm.size n)) w) := by
  unfold maxLen at hnm
  have ht : ∀ l w', 0 ≤ l → l ≤ 9223372036854775807 → Below w.heap.size w w' → Calls Try.prog 33 #[sv, .int .i64 l] w' (RetS (.int .i64 (leftOf l n)) w') := fun l w' q1 q2 hb => szRingS_c sv n xs l w' (h.later hb) q1 q2
  have HT := Lib.hid ht; clear ht
  obtain ⟨hn, ao, cap, b, off, rfl, hao, hcell⟩ := h.open
  clear h hao hcell
  by_cases hl : left - nm.size < 0
  · have he : leftP left nm.size n = -1 := by unfold leftP; rw [if_pos hl]
    rw [he]
    clear he
    go_enter Try.func7, Try.ntmps7
    go_wp2
    go_returns
    exact RetB.mk rfl (by go_grown)
  · have he : leftP left nm.size n = leftOf (left - nm.size) n := by unfold leftP; rw [if_neg hl]
    rw [he]
    clear he
    by_cases hl2 : leftOf (left - nm.size) n < 0
    · have e1 : leftOf (left - nm.size) n = -1 := by unfold leftOf at hl2 ⊢; split <;> omega
      have HT2 := HT.out (left - nm.size)
      rw [e1] at HT2 ⊢
      have HT3 := Lib.hid HT2; clear HT2
      clear e1 hl2
      go_enter Try.func7, Try.ntmps7
      go_wp2_with (go_at_call 33; refine (HT3.out _ (by omega) (by omega) (by go_grown)).mono ?_; rintro _ _ ⟨rfl, rfl⟩)
      go_returns
      exact RetB.mk rfl (by go_grown)
    · generalize hq : leftOf (left - nm.size) n = q at *
      have HT2 := HT.out (left - nm.size)
      rw [hq] at HT2
      have HT3 := Lib.hid HT2; clear HT2
      clear hq
      go_enter Try.func7, Try.ntmps7
      go_wp2_with (go_at_call 33; refine (HT3.out _ (by omega) (by omega) (by go_grown)).mono ?_; rintro _ _ ⟨rfl, rfl⟩)
      go_returns
      exact RetB.mk rfl (by go_grown)

end Go.Proofs.Ytmeeibcbhjifbaa

/- The laws' marks on numbers and on profiles. -/
namespace Go.Proofs.Ytmeeibcbhjifbaa
set_option linter.unusedVariables false
open Go.RowKit Go.Proofs.Bell Go.BigFrame

/-- the marks of `n` numbers, from `k0` on -/
def mk1 (k0 : Int) (n : Nat) : List Int := (List.range n).map fun i : Nat => k0 + (i : Int)
theorem mk1_len (k0 : Int) (n : Nat) : (mk1 k0 n).length = n := by simp [mk1]
theorem mk1_get {k0 : Int} {n i : Nat} (h : i < (mk1 k0 n).length) : (mk1 k0 n)[i] = k0 + (i : Int) := by simp [mk1]

set_option maxHeartbeats 1600000 in
theorem markInt64S_c (v : Value) (n base : Nat) (k0 : Int) (xs0 : List Value) (w : World) (h : w.ownsRow base 2 1 v n xs0) (hk0 : 0 ≤ k0) (hk1 : k0 + (n : Int) ≤ 9223372036854775800) (hn : n ≤ 1000000000000000000) :
    Calls Try.prog 66 #[v, .int .i64 k0] w (fun e w' => e = .returned (.int .i64 (k0 + (n : Int))) ∧ w'.ownsRow base 2 1 v n (ints (mk1 k0 n)) ∧ Only (fun b => v.ownBlock = some b) w w') := by
  refine Calls.mono (R := Marked v n (k0 + (n : Int)) base 2 1 (ints (mk1 k0 n)) w) ?_ (fun e w' h => h)
  obtain ⟨ao, cap, g, hv, hao, hvb⟩ := own_open h
  have HVB := Lib.hid hvb; clear hvb
  subst hv
  go_enter Try.func66, Try.ntmps66
  go_wp2_with fail
  go_loopw [1, 5] (fun q i wr => ∃ (k : Nat) (xs : List Value), k ≤ n ∧ i = .int .i64 k ∧ q = .int .i64 (k0 + (k : Int)) ∧ wr.ownsRow base 2 1 (.slice ao n cap) n xs ∧ (∀ j, j < k → xs[j]? = (ints (mk1 k0 n))[j]?) ∧ Only (fun b => (Value.slice ao n cap).ownBlock = some b) w wr)
    (fun _ i _ => n - (intOf i).toNat)
  case atStart => exact ⟨0, xs0, Nat.zero_le _, rfl, by simp, h, fun j hj => by omega, Only.refl _ _⟩
  case round =>
    obtain ⟨k, xs, hk, rfl, rfl, hown, hx, ho⟩ := hrel
    have HX := Lib.hid hx; clear hx
    by_cases hlt : k < n
    · have hix := ix (P := Try.prog) (T := 38) (cap := cap) Try.underlying38 cells_int64 has_int64 hao hlt k rfl
      simp only [Nat.zero_add, Nat.mul_one] at hix
      obtain ⟨⟨u0, c0⟩, f0, _, hs0⟩ := own_cell hown hao (j := k) (by omega)
      have hl := hown.1
      have HO := Lib.hid ho; clear ho
      have HAO := Lib.hid hao; clear hao
      have HOWN := Lib.hid hown; clear hown
      clear h
      go_wp2
      go_roundw
      case rel =>
        have ho := HO.out
        have hvb := HVB.out
        have hm : k < (mk1 k0 n).length := by rw [mk1_len]; exact hlt
        have hat := intsAt hm
        rw [mk1_get hm] at hat
        exact ⟨k + 1, _, by omega, by go_num, int_eq (by omega), hs0 (.int .i64 (k0 + (k : Int))), set1_upto HX.out (by omega) hat, ho.setCell (hvb (by omega)) _⟩
      case measure => simp [intOf]; omega
    · obtain rfl : k = n := by omega
      go_wp2
      go_returns
      have e := upto_all (hown.1.trans (by rw [ints_len, mk1_len]; omega)) (fun j hj => HX.out j (by rw [ints_len, mk1_len] at hj; exact hj))
      subst e
      exact ⟨rfl, hown, ho⟩

set_option maxHeartbeats 1600000 in
theorem heldInt64S_c (v : Value) (n : Nat) (k0 : Int) (w : World) (h : Rd w v n (ints (mk1 k0 n))) (hk0 : 0 ≤ k0) (hk1 : k0 + (n : Int) ≤ 9223372036854775800) :
    Calls Try.prog 68 #[v, .int .i64 k0] w (RetS (.int .i64 (k0 + (n : Int))) w) := by
  obtain ⟨hn, ao, cap, b, off, rfl, hao, hcell⟩ := h.open
  clear h
  go_enter Try.func68, Try.ntmps68
  go_wp2_with fail
  go_loop [1, 5] (fun q i => ∃ (k : Nat), k ≤ n ∧ i = .int .i64 k ∧ q = .int .i64 (k0 + (k : Int))) (fun _ i => n - (intOf i).toNat)
  case atStart => exact ⟨0, Nat.zero_le _, rfl, by simp⟩
  case round =>
    obtain ⟨k, hk, rfl, rfl⟩ := hrel
    by_cases hlt : k < n
    · have hix := ix (P := Try.prog) (T := 38) (cap := cap) Try.underlying38 cells_int64 has_int64 hao hlt k rfl
      rw [Nat.mul_one] at hix
      have hm : k < (mk1 k0 n).length := by rw [mk1_len]; exact hlt
      have hc0 : w.cell? ⟨b, off + k, none⟩ = some (.int .i64 (k0 + (k : Int))) := by rw [hcell _ (Below.refl _ _) _ _ (by omega) (intsAt hm), mk1_get hm]
      clear hcell hm
      go_wp2
      go_round
      case rel => exact ⟨k + 1, by omega, by go_num, int_eq (by omega)⟩
      case measure => simp [intOf]; omega
    · obtain rfl : k = n := by omega
      clear hcell
      go_wp2
      go_returns
      exact RetS.mk rfl

set_option maxHeartbeats 800000 in
theorem markProfile_c (nm : ByteArray) (v : Value) (n base : Nat) (k0 : Int) (xs0 : List Value) (w : World) (h : w.ownsRow base 135 3 v n xs0) (hk0 : 0 ≤ k0) (hk1 : k0 + 3 * (n : Int) ≤ 9223372036854775800) (hn : n ≤ 1000000000000000000) :
    Calls Try.prog 13 #[.agg #[.string nm, v], .int .i64 k0] w (fun e w' => e = .returned (.int .i64 (k0 + 3 * (n : Int))) ∧ w'.ownsRow base 135 3 v n (trips (mk3 k0 n)) ∧ Only (fun b => v.ownBlock = some b) w w') := by
  refine Calls.mono (R := Marked v n (k0 + 3 * (n : Int)) base 135 3 (trips (mk3 k0 n)) w) ?_ (fun e w' h => h)
  have hm := fun o => markRingS_c v n base k0 xs0 (w.alloc o) (h.alloc o) hk0 hk1 hn
  have HM := Lib.hid hm; clear hm
  have H := Lib.hid h; clear h
  go_enter Try.func13, Try.ntmps13
  go_wp2_with fail
  refine (HM.out _).mono ?_
  rintro _ w1 ⟨rfl, ho, hq⟩
  have HO := Lib.hid ho; clear ho
  go_wp2
  go_returns
  exact ⟨rfl, HO.out, (Only.of_below ((Below.refl _ _).alloc (Nat.le_refl _) _)).trans hq⟩

end Go.Proofs.Ytmeeibcbhjifbaa

