/- The room of all zones. -/
import Derived.Test.YtmeeibcbhjifbaaGC
import Derived.Test.YtmeeibcbhjifbaaGG
namespace Go.Proofs.Ytmeeibcbhjifbaa
set_option linter.unusedVariables false
open Go.RowKit Go.Proofs.Bell Go.BigFrame

def roomK (nm : ByteArray) (ps : List (Int × Int × Int)) (zs : List Int) : Nat → List Int
  | 0 => []
  | k + 1 => roomK nm ps zs k ++ [((mostI nm ps zs k : Nat) : Int)]
theorem roomK_len (nm : ByteArray) (ps : List (Int × Int × Int)) (zs : List Int) : ∀ k, (roomK nm ps zs k).length = k
  | 0 => rfl
  | k + 1 => by rw [roomK, List.length_append, roomK_len nm ps zs k]; rfl
def roomI (nm : ByteArray) (ps : List (Int × Int × Int)) (zs : List Int) : List Int × Int := if vzB nm ps zs then (roomK nm ps zs zs.length, 0) else ([], 1)
theorem roomI_len (nm : ByteArray) (ps : List (Int × Int × Int)) (zs : List Int) : (roomI nm ps zs).1.length ≤ 8 := by
  unfold roomI
  split
  · rename_i h
    simp only [vzB, Bool.and_eq_true] at h
    rw [roomK_len]; exact (zones_len h.2).2
  · simp

set_option maxRecDepth 100000 in
set_option maxHeartbeats 1600000 in
theorem roomOf_c (nm : ByteArray) (sv : Value) (ps : List (Int × Int × Int)) (v : Value) (zs : List Int) (w : World) (hnm : nm.size ≤ maxLen) (hr : Rd w sv ps.length (trips ps)) (h : Rd w v zs.length (ints zs))
    (hl1 : 1 ≤ ps.length) (hl2 : ps.length ≤ 32) (hal : ps.all ringT = true) (hzb : zonesB zs ((ps.length : Int) - 1) = true) :
    Calls Try.prog 143 #[.agg #[.string nm, sv], v] w (RetOwnI (roomK nm ps zs zs.length) w) := by
  obtain ⟨hz1, hz8⟩ := zones_len hzb
  have hms := fun w' k (hk : k < zs.length) (hb : Below w.heap.size w w') => mostSteps_c nm sv ps v zs k w' hnm (hr.later hb) (h.later hb) hl1 hl2 hal hzb hk
  have hst := fun k => (show roomK nm ps zs k ++ [((mostI nm ps zs k : Nat) : Int)] = roomK nm ps zs (k + 1) from rfl)
  have hrl := roomK_len nm ps zs
  have HMS := Lib.hid hms; clear hms
  have HST := Lib.hid hst; clear hst
  have HRL := Lib.hid hrl; clear hrl
  obtain ⟨hn0, ao0, cap0, b0', off0, rfl, hao0, hcell0⟩ := hr.open
  clear hcell0 hao0 hr hal hzb
  obtain ⟨hnq, aoq, capq, bq, offq, rfl, haoq, hcellq⟩ := h.open
  clear hcellq haoq h
  generalize zs.length = nz at *
  go_enter Try.func143, Try.ntmps143
  have b0 : Below w.heap.size w w := Below.refl _ _
  have z0 : w.heap.size ≤ w.heap.size := Nat.le_refl _
  go_wp2_with fail
  go_loopw [9, 5] (fun i u wr => ∃ (k : Nat), k ≤ nz ∧ i = .int .i64 k ∧ OwnI (w.heap.size + 1) wr u (roomK nm ps zs k) ∧ Below w.heap.size w wr ∧ wr.cell? ⟨w.heap.size, 0, none⟩ = some (.string nm) ∧ wr.cell? ⟨w.heap.size, 1, none⟩ = some (.slice ao0 ps.length cap0)) (fun i u _ => nz - (intOf i).toNat)
  case atStart => exact ⟨0, Nat.zero_le _, rfl, World.ownsRow_nil _ _ _ _, (by go_grown), (by simp [go_sem]), (by simp [go_sem])⟩
  case round =>
    obtain ⟨k, hk, rfl, ho, br0, c0_0_r0, c0_1_r0⟩ := hrel
    have zr0 := br0.size
    have hlen := HRL.out k
    have hlo := own_lo ho
    have HO := Lib.hid ho; clear ho
    have LO := Lib.hid hlo; clear hlo
    by_cases hlt : k < nz
    · skip
      have hs := HST.out k
      have hek := fun w' hb => HMS.out w' k hlt hb
      have HS := Lib.hid hs; clear hs
      have HEK := Lib.hid hek; clear hek
      generalize mostI nm ps zs k = x at *
      go_wp2_with fail
      refine (HEK.out _ br0).mono ?_
      rintro _ wr1 ⟨rfl, rr1⟩
      have sr1 := rr1
      have br1 := br0.trans (sr1.mono zr0)
      have zr1 := br1.size
      have yr1 := sr1.size
      have c0_0_r1 := below_cell sr1 c0_0_r0; clear c0_0_r0
      have c0_1_r1 := below_cell sr1 c0_1_r0; clear c0_1_r0
      have o1_r1 := own_later HO.out sr1; have O1_r1 := Lib.hid o1_r1; clear o1_r1
      clear rr1
      have zz3 : w.heap.size + 1 ≤ wr1.heap.size := World.block_lt_of_cell? _ ⟨w.heap.size, 0, none⟩ c0_0_r1
      go_wp2_with (at_builtin; refine app_I (.tmp 12) (.tmp 17) _ _ _ _ _ (by rfl) (by rfl) (by rfl) (by rfl) O1_r1.out (by omega) zz3 ?_; intro v2 w9 o9 q9)
      have d0 := cell_only q9 c0_0_r1 (fun h => by have := LO.out _ h; simp at this; omega)
      have d1 := cell_only q9 c0_1_r1 (fun h => by have := LO.out _ h; simp at this; omega)
      have hb2 := Only.below br1 q9 zr1 (fun k h => by have := LO.out k h; omega)
      go_wp2
      go_roundw
      case rel => exact ⟨k + 1, by omega, by go_num, by rw [← HS.out]; exact o9, hb2, d0, d1⟩
      case measure => simp [intOf]; omega
    · obtain rfl : k = nz := by omega
      go_wp2
      go_returns
      exact ⟨_, rfl, own_base HO.out (by omega), br0⟩

end Go.Proofs.Ytmeeibcbhjifbaa
