/- Cuts: validity and sums. -/
import Derived.Test.YtddkjcdnomoglaaCuts
namespace Go.Proofs.Ytddkjcdnomoglaa
set_option linter.unusedVariables false
open Go.RowKit Go.Proofs.Bell Go.BigFrame

def cutB (p : Int × Int) : Bool := inB p.1 0 7 && inB p.2 1 20
def cutsB (ps : List (Int × Int)) : Bool := ps.all cutB && decide (ps.length ≤ 64)

theorem all_take_step {α : Type} {p : α → Bool} {xs : List α} {k : Nat} (h : (xs.take k).all p = true) (hk : k < xs.length) (h1 : p xs[k] = true) : (xs.take (k + 1)).all p = true := by
  rw [List.take_succ_eq_append_getElem hk, List.all_append, h]; simp [h1]
theorem all_false_of {α : Type} {p : α → Bool} {xs : List α} {k : Nat} (hk : k < xs.length) (h1 : p xs[k] = false) : xs.all p = false := by
  rw [List.all_eq_false]; exact ⟨xs[k], List.getElem_mem hk, by rw [h1]; exact Bool.false_ne_true⟩

set_option maxHeartbeats 800000 in
theorem l09Cuts_c (v : Value) (ps : List (Int × Int)) (w : World) (h : Rd w v ps.length (pairs ps)) :
    Calls Try.prog 160 #[v] w (RetS (.bool (cutsB ps)) w) := by
  generalize hn : ps.length = n at h
  have HN := Lib.hid hn; clear hn
  obtain ⟨hn, ao, cap, b, off, rfl, hao, hcell⟩ := h.open
  clear h
  go_enter Try.func160, Try.ntmps160
  go_wp2_with fail
  go_loop [3] (fun i => ∃ (k : Nat), k ≤ n ∧ i = .int .i64 k ∧ (ps.take k).all cutB = true) (fun i => n - (intOf i).toNat)
  case atStart => exact ⟨0, Nat.zero_le _, rfl, rfl⟩
  case round =>
    obtain ⟨k, hk, rfl, hx⟩ := hrel
    have HX := Lib.hid hx; clear hx
    by_cases hlt : k < n
    · have hltp : k < ps.length := by rw [HN.out]; exact hlt
      have hix := ix (P := Try.prog) (T := 55) (cap := cap) Try.underlying55 cells_Cut has_Cut hao hlt k rfl
      have hc1 : w.cell? ⟨b, off + k * 2, none⟩ = some (.int .i64 ps[k].1) := hcell _ (Below.refl _ _) _ _ (by omega) (pairs_at hltp).1
      have hc2 : w.cell? ⟨b, off + k * 2 + 1, none⟩ = some (.int .i64 ps[k].2) := hcell _ (Below.refl _ _) _ _ (by omega) (pairs_at hltp).2
      have hp : cutB ps[k] = true → (ps.take (k + 1)).all cutB = true := fun h1 => all_take_step HX.out hltp h1
      have hq : cutB ps[k] = false → cutsB ps = false := fun h => by unfold cutsB; rw [all_false_of hltp h]; rfl
      have HP := Lib.hid hp; clear hp
      have HQ := Lib.hid hq; clear hq
      clear hcell
      generalize ps[k] = p at *
      obtain ⟨z, s⟩ := p
      cases t1 : inB z 0 7
      · go_wp2_with (go_at_call 61; refine (l00In_c _ _ _ _).mono ?_; rintro _ _ ⟨rfl, rfl⟩)
        go_returns
        exact RetS.mk (bool_eq (HQ.out (by simp [cutB, t1])).symm)
      · cases t2 : inB s 1 20
        · go_wp2_with (go_at_call 61; refine (l00In_c _ _ _ _).mono ?_; rintro _ _ ⟨rfl, rfl⟩)
          go_returns
          exact RetS.mk (bool_eq (HQ.out (by simp [cutB, t2])).symm)
        · go_wp2_with (go_at_call 61; refine (l00In_c _ _ _ _).mono ?_; rintro _ _ ⟨rfl, rfl⟩)
          go_round
          case rel => exact ⟨k + 1, by omega, by go_num, HP.out (by simp [cutB, t1, t2])⟩
          case measure => simp [intOf]; omega
    · obtain rfl : k = n := by omega
      go_wp2
      go_returns
      refine RetS.mk (bool_eq ?_)
      have e := HX.out
      rw [List.take_of_length_le (by rw [HN.out]; exact Nat.le_refl _)] at e
      rw [cutsB, e, HN.out]; simp; omega

theorem ValidCuts1_c (p : Int × Int) (w : World) : Calls Try.prog 146 #[.agg #[.int .i64 p.1, .int .i64 p.2]] w (RetB (.bool (!cutB p)) w) := by
  obtain ⟨z, s⟩ := p
  cases t1 : inB z 0 7 <;>
  · go_enter Try.func146, Try.ntmps146
    go_wp2_with (go_at_call 65; refine (within_c _ _ _ _).mono ?_; rintro _ _ ⟨rfl, rfl⟩)
    go_returns
    refine RetB.mk (bool_eq (by simp [cutB, t1])) ?_
    go_grown

/-- where the first element lies that meets `p`; -1 where there is none -/
def findI {α : Type} (p : α → Bool) (xs : List α) : Int := match xs.findIdx? p with | some k => k | none => -1
theorem findI_none {α : Type} {p : α → Bool} {xs : List α} (h : xs.all (fun x => !p x) = true) : findI p xs = -1 := by
  unfold findI
  rw [List.findIdx?_eq_none_iff.2 (fun x hx => by simpa using List.all_eq_true.1 h x hx)]
theorem findI_some {α : Type} {p : α → Bool} {xs : List α} {k : Nat} (h : (xs.take k).all (fun x => !p x) = true) (hk : k < xs.length) (h1 : p xs[k] = true) : findI p xs = k := by
  unfold findI
  have : xs.findIdx? p = some k := by
    rw [List.findIdx?_eq_some_iff_getElem]
    refine ⟨hk, h1, fun j hj => ?_⟩
    have := List.all_eq_true.1 h xs[j] (by rw [List.mem_take_iff_getElem]; exact ⟨j, by omega, rfl⟩)
    simpa using this
  rw [this]
theorem findI_lt {α : Type} {p : α → Bool} {xs : List α} : findI p xs < 0 ↔ xs.any p = false := by
  unfold findI
  cases h : xs.findIdx? p with
  | none => simp only [List.findIdx?_eq_none_iff] at h; simp [List.any_eq_false]; exact h
  | some k =>
    rw [List.findIdx?_eq_some_iff_getElem] at h
    obtain ⟨hk, h1, _⟩ := h
    simp only [List.any_eq_false]
    constructor
    · intro h; omega
    · intro h; exact absurd h1 (h _ (List.getElem_mem hk))

set_option maxHeartbeats 800000 in
theorem IndexFuncCut_c (g : Nat) (cs : Array Value) (p : Int × Int → Bool) (v : Value) (ps : List (Int × Int)) (w : World) (h : Rd w v ps.length (pairs ps))
    (hcall : ∀ (args : Array Value) (w : World), (callFunc g args).run Try.prog w = .ok (.enter g args) w)
    (hg : ∀ x, x ∈ ps → ∀ w', Below w.heap.size w w' → Calls Try.prog g (#[.agg #[.int .i64 x.1, .int .i64 x.2]] ++ cs) w' (RetB (.bool (p x)) w')) :
    Calls Try.prog 147 #[v, .func (.func g) #[] cs] w (RetB (.int .i64 (findI p ps)) w) := by
  generalize hn : ps.length = n at h
  have HN := Lib.hid hn; clear hn
  have HG := Lib.hid hg; clear hg
  obtain ⟨hn, ao, cap, b, off, rfl, hao, hcell⟩ := h.open
  clear h
  go_enter Try.func147, Try.ntmps147
  go_wp2_with fail
  go_loopw [8] (fun i wr => ∃ (k : Nat), k ≤ n ∧ i = .int .i64 k ∧ (ps.take k).all (fun x => !p x) = true ∧ Below w.heap.size w wr) (fun i _ => n - (intOf i).toNat)
  case atStart => exact ⟨0, Nat.zero_le _, rfl, rfl, Below.refl _ _⟩
  case round =>
    obtain ⟨k, hk, rfl, hx, hb⟩ := hrel
    have HX := Lib.hid hx; clear hx
    by_cases hlt : k < n
    · have hltp : k < ps.length := by rw [HN.out]; exact hlt
      have hix := ix (P := Try.prog) (T := 55) (cap := cap) Try.underlying55 cells_Cut has_Cut hao hlt k rfl
      have hc1 : wr.cell? ⟨b, off + k * 2, none⟩ = some (.int .i64 ps[k].1) := hcell _ hb _ _ (by omega) (pairs_at hltp).1
      have hc2 : wr.cell? ⟨b, off + k * 2 + 1, none⟩ = some (.int .i64 ps[k].2) := hcell _ hb _ _ (by omega) (pairs_at hltp).2
      have hgk := HG.out ps[k] (List.getElem_mem hltp) wr hb
      have HGK := Lib.hid hgk; clear hgk
      have hp : p ps[k] = false → (ps.take (k + 1)).all (fun x => !p x) = true := fun h1 => all_take_step HX.out hltp (by rw [h1]; rfl)
      have hq : p ps[k] = true → findI p ps = k := fun h => findI_some HX.out hltp h
      have HP := Lib.hid hp; clear hp
      have HQ := Lib.hid hq; clear hq
      clear hcell
      generalize ps[k] = x at *
      go_wp2_with fail
      refine HGK.out.mono ?_
      rintro _ w1 ⟨rfl, hb1⟩
      have hb2 := hb.trans (hb1.mono hb.size)
      cases t1 : p x
      · go_wp2
        go_roundw
        case rel => exact ⟨k + 1, by omega, by go_num, HP.out t1, hb2⟩
        case measure => simp [intOf]; omega
      · go_wp2
        go_returns
        exact RetB.mk (int_eq (HQ.out t1).symm) hb2
    · obtain rfl : k = n := by omega
      go_wp2
      go_returns
      refine RetB.mk (int_eq ?_) hb
      have e := HX.out
      rw [List.take_of_length_le (by rw [HN.out]; exact Nat.le_refl _)] at e
      exact (findI_none e).symm

theorem ContainsFuncCut_c (g : Nat) (cs : Array Value) (p : Int × Int → Bool) (v : Value) (ps : List (Int × Int)) (w : World) (h : Rd w v ps.length (pairs ps))
    (hcall : ∀ (args : Array Value) (w : World), (callFunc g args).run Try.prog w = .ok (.enter g args) w)
    (hg : ∀ x, x ∈ ps → ∀ w', Below w.heap.size w w' → Calls Try.prog g (#[.agg #[.int .i64 x.1, .int .i64 x.2]] ++ cs) w' (RetB (.bool (p x)) w')) :
    Calls Try.prog 108 #[v, .func (.func g) #[] cs] w (RetB (.bool (ps.any p)) w) := by
  have hf := findI_lt (p := p) (xs := ps)
  have HF := Lib.hid hf; clear hf
  have HG := Lib.hid hg; clear hg
  have HC := Lib.hid hcall; clear hcall
  have hi := IndexFuncCut_c g cs p v ps w h HC.out HG.out
  have HI := Lib.hid hi; clear hi
  generalize findI p ps = fi at *
  by_cases h0 : fi < 0
  · go_enter Try.func108, Try.ntmps108
    go_wp2_with (go_at_call 147; refine HI.out.mono ?_; rintro _ w1 ⟨rfl, hb1⟩)
    go_returns
    exact RetB.mk (bool_eq (by rw [HF.out.1 h0] <;> simp <;> omega)) ‹_›
  · have h1 : ps.any p = true := by
      cases h : ps.any p
      · exact absurd (HF.out.2 h) h0
      · rfl
    have H1 := Lib.hid h1; clear h1
    go_enter Try.func108, Try.ntmps108
    go_wp2_with (go_at_call 147; refine HI.out.mono ?_; rintro _ w1 ⟨rfl, hb1⟩)
    go_returns
    exact RetB.mk (bool_eq (by rw [H1.out] <;> simp <;> omega)) ‹_›

theorem any_not {α : Type} (p : α → Bool) (xs : List α) : xs.any (fun x => !p x) = !xs.all p := by
  induction xs with
  | nil => rfl
  | cons x xs ih => simp [ih, Bool.not_and]

theorem ValidCuts_c (v : Value) (ps : List (Int × Int)) (w : World) (h : Rd w v ps.length (pairs ps)) :
    Calls Try.prog 106 #[v] w (RetB (.bool (cutsB ps)) w) := by
  have hi := ContainsFuncCut_c 146 #[] (fun x => !cutB x) v ps w h (enters Try.func146 (by kernel_rfl) rfl) (fun x _ w' _ => ValidCuts1_c x w')
  have HI := Lib.hid hi; clear hi
  obtain ⟨hn, ao, cap, b, off, rfl, hao, hcell⟩ := h.open
  clear hcell
  by_cases hl : ps.length ≤ 64
  · go_enter Try.func106, Try.ntmps106
    go_wp2_with (go_at_call 108; refine HI.out.mono ?_; rintro _ w1 ⟨rfl, hb1⟩)
    go_returns
    exact RetB.mk (bool_eq (by rw [cutsB, any_not]; simp [hl])) ‹_›
  · go_enter Try.func106, Try.ntmps106
    go_wp2
    go_returns
    exact RetB.mk (bool_eq (by rw [cutsB]; simp; omega)) (Below.refl _ _)

end Go.Proofs.Ytddkjcdnomoglaa
