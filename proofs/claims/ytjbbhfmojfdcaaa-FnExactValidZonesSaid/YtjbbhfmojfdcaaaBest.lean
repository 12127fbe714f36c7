/- The widest and the thinnest ring. -/
import Derived.Test.YtjbbhfmojfdcaaaValid2
namespace Go.Proofs.Ytjbbhfmojfdcaaa
set_option linter.unusedVariables false
open Go.RowKit Go.Proofs.Bell Go.BigFrame

def bestK (b : (Int × Int × Int) → (Int × Int × Int) → Bool) (rs : List (Int × Int × Int)) : Nat → Nat
  | 0 => 0
  | k + 1 => if b (rg rs k) (rg rs (bestK b rs k)) then k else bestK b rs k
theorem bestK_lt {b : (Int × Int × Int) → (Int × Int × Int) → Bool} {rs : List (Int × Int × Int)} {n : Nat} (hn : 1 ≤ n) : ∀ k, k ≤ n → bestK b rs k < n
  | 0, _ => by simp [bestK]; omega
  | k + 1, h => by
    have := bestK_lt (b := b) (rs := rs) hn k (by omega)
    simp only [bestK]
    split <;> omega
def widB (p q : Int × Int × Int) : Bool := decide (q.1 < p.1)
def thinB (p q : Int × Int × Int) : Bool := decide (p.1 - p.2.1 < q.1 - q.2.1)
theorem widK_one (rs : List (Int × Int × Int)) : bestK widB rs 1 = 0 := by cases h : widB (rg rs 0) (rg rs 0) <;> simp [bestK, h]
theorem thinK_one (rs : List (Int × Int × Int)) : bestK thinB rs 1 = 0 := by cases h : thinB (rg rs 0) (rg rs 0) <;> simp [bestK, h]
def widI (nm : ByteArray) (rs : List (Int × Int × Int)) : Int × Int := if profB nm rs then ((bestK widB rs rs.length : Int), 0) else (0, 1)
def thinI (nm : ByteArray) (rs : List (Int × Int × Int)) : Int × Int := if profB nm rs then ((bestK thinB rs rs.length : Int), 0) else (0, 1)
theorem profB_t {nm : ByteArray} {rs : List (Int × Int × Int)} (h : profB nm rs = true) : 1 ≤ rs.length ∧ rs.length ≤ 32 ∧ rs.all ringT = true ∧ heightI rs ≤ 300000 := by
  simp only [profB, Bool.and_eq_true, decide_eq_true_eq] at h
  exact ⟨h.1.1.1.1.2, h.1.1.1.2, h.1.1.2, h.2⟩

set_option maxHeartbeats 1600000 in
theorem specWidestRing_c (nm : ByteArray) (sv : Value) (ps : List (Int × Int × Int)) (w : World) (hnm : nm.size ≤ maxLen) (h : Rd w sv ps.length (trips ps)) :
    Calls Try.prog 30 #[.agg #[.string nm, sv]] w (RetB (.tuple #[.int .i64 (widI nm ps).1, .int .i64 (widI nm ps).2]) w) := by
  have hok := fun w' g hg c0 c1 (hb : Below w.heap.size w w') => l05Ok_c g nm sv ps w' hg hnm c0 c1 (h.later hb)
  have hv := fun (hp : profB nm ps = true) => profB_t hp
  obtain ⟨hn, ao, cap, b, off, rfl, hao, hcell⟩ := h.open
  clear h
  cases t0 : profB nm ps <;> rw [t0] at hok
  · have HOK := Lib.hid hok; clear hok
    go_enter Try.func30, Try.ntmps30
    go_wp2_with (go_at_call 78; refine (HOK.out _ _ (by simp) (by simp [go_sem]) (by simp [go_sem]) (by go_grown)).mono ?_; rintro _ w1 ⟨rfl, n, rfl⟩)
    go_returns
    exact RetB.mk (ints_eq (by simp [widI, t0]) (by simp [widI, t0])) (below_drewN (by go_grown) _)
  · have HOK := Lib.hid hok; clear hok
    obtain ⟨hl1, hl2, _, _⟩ := hv t0
    have hr : widI nm ps = ((bestK widB ps ps.length : Int), 0) := by simp [widI, t0]
    rw [hr]
    clear hv hr
    generalize hn' : ps.length = n at *
    have HN := Lib.hid hn'; clear hn'
    go_enter Try.func30, Try.ntmps30
    go_wp2_with fail
    refine (HOK.out _ _ (by simp) (by simp [go_sem]) (by simp [go_sem]) (by go_grown)).mono ?_
    rintro _ w1 ⟨rfl, nd, e1⟩
    have b1 : Below w.heap.size w w1 := by rw [e1]; exact below_drewN (by go_grown) _
    have k1 : w1.cell? ⟨w.heap.size, 1, none⟩ = some (.slice ao n cap) := by rw [e1]; exact below_cell (below_drewN (Below.refl _ _) _) (by simp [go_sem])
    clear e1
    go_wp2_with fail
    go_loopw [5, 4] (fun i s wr => ∃ (k : Nat), 1 ≤ k ∧ k ≤ n ∧ i = .int .i64 k ∧ s = .int .i64 (bestK widB ps k : Nat) ∧ Dr w1 wr) (fun i _ _ => n - (intOf i).toNat)
    case atStart => exact ⟨1, Nat.le_refl _, hl1, rfl, by rw [widK_one]; rfl, Dr.refl _⟩
    case round =>
      obtain ⟨k, hk1, hk, rfl, rfl, hd⟩ := hrel
      have hb1 := hd.below
      have hb := b1.trans (hb1.mono b1.size)
      have m1 := below_cell hb1 k1
      by_cases hlt : k < n
      · have hj := bestK_lt (b := widB) (rs := ps) hl1 k hk
        have hltp : k < ps.length := by rw [HN.out]; exact hlt
        have hltj : bestK widB ps k < ps.length := by rw [HN.out]; exact hj
        have hs : bestK widB ps (k + 1) = if widB (rg ps k) (rg ps (bestK widB ps k)) then k else bestK widB ps k := rfl
        generalize bestK widB ps k = j at *
        have hix := ix (P := Try.prog) (T := 48) (cap := cap) Try.underlying48 cells_Ring has_Ring hao hlt k rfl
        have hix2 := ix (P := Try.prog) (T := 48) (cap := cap) Try.underlying48 cells_Ring has_Ring hao hj j rfl
        have hc1 : wr.cell? ⟨b, off + k * 3, none⟩ = some (.int .i64 (rg ps k).1) := by rw [rg_eq hltp]; exact hcell _ hb _ _ (by omega) (trips_at hltp).1
        have hd1 : wr.cell? ⟨b, off + j * 3, none⟩ = some (.int .i64 (rg ps j).1) := by rw [rg_eq hltj]; exact hcell _ hb _ _ (by omega) (trips_at hltj).1
        have hs2 : (decide ((rg ps j).1 < (rg ps k).1)) = widB (rg ps k) (rg ps j) := rfl
        clear hcell hltj
        rw [← hs2] at hs
        clear hs2
        generalize (rg ps k).1 = x at *
        generalize (rg ps j).1 = y at *
        cases t1 : decide (y < x)
        · rw [t1] at hs
          have HS := Lib.hid hs; clear hs
          go_wp2_with fail
          go_quiet (fail)
          clear hc1 hd1 t1
          go_wp2
          go_roundw
          case rel => exact ⟨k + 1, by omega, by omega, by go_num, by rw [HS.out]; rfl, (by first | exact Dr.refl _ | exact Dr.next (by assumption) _ | assumption | exact ⟨_, rfl⟩ | exact ⟨_, World.drewN_drewN _ _ _⟩)⟩
          case measure => simp [intOf]; omega
        · rw [t1] at hs
          have HS := Lib.hid hs; clear hs
          go_wp2_with fail
          go_quiet (fail)
          clear hc1 hd1 t1
          go_wp2
          go_roundw
          case rel => exact ⟨k + 1, by omega, by omega, by go_num, by rw [HS.out]; rfl, (by first | exact Dr.refl _ | exact Dr.next (by assumption) _ | assumption | exact ⟨_, rfl⟩ | exact ⟨_, World.drewN_drewN _ _ _⟩)⟩
          case measure => simp [intOf]; omega
      · obtain rfl : k = n := by omega
        go_wp2
        go_returns
        exact RetB.mk rfl hb

end Go.Proofs.Ytjbbhfmojfdcaaa
