/- Volumes of profiles. -/
import Derived.Test.YtpaciehgafobfaaAt2
import Derived.Test.YtpaciehgafobfaaRing2
namespace Go.Proofs.Ytpaciehgafobfaa
set_option linter.unusedVariables false
open Go.RowKit Go.Proofs.Bell Go.BigFrame

def fsum (f : Int × Int × Int → Int) (rs : List (Int × Int × Int)) : Int := (rs.map f).sum
theorem fsum_snoc (f : Int × Int × Int → Int) (ps : List (Int × Int × Int)) {k : Nat} (h : k < ps.length) : fsum f (ps.take (k + 1)) = fsum f (ps.take k) + f (rg ps k) := by
  show ((ps.take (k + 1)).map f).sum = ((ps.take k).map f).sum + _
  rw [rg_eq h, List.take_succ_eq_append_getElem h, List.map_append, List.sum_append]; simp
theorem all_at {f : Int × Int × Int → Bool} {ps : List (Int × Int × Int)} (h : ps.all f = true) {k : Nat} (hk : k < ps.length) : f (rg ps k) = true := by
  rw [rg_eq hk]; exact List.all_eq_true.1 h ps[k] (List.getElem_mem hk)
theorem fsum_bd {f : Int × Int × Int → Int} {M : Int} {ps : List (Int × Int × Int)} (hM : 0 ≤ M) (hf : ∀ p, ringT p = true → 0 ≤ f p ∧ f p ≤ M) (h : ps.all ringT = true) : ∀ k, 0 ≤ fsum f (ps.take k) ∧ fsum f (ps.take k) ≤ M * k := by
  intro k
  induction k with
  | zero => simp [fsum]
  | succ k ih =>
    have e : M * ((k + 1 : Nat) : Int) = M * k + M := by rw [Int.natCast_add, Int.mul_add]; simp
    rcases Nat.lt_or_ge k ps.length with hk | hk
    · rw [fsum_snoc f ps hk, e]
      have h1 := hf _ (all_at h hk)
      omega
    · rw [List.take_of_length_le (by omega)] at ih ⊢; rw [e]; omega

def rvolT (p : Int × Int × Int) : Int := tubeI (secI p.1 p.2.1) p.2.2
def hvolT (p : Int × Int × Int) : Int := tubeI (p.2.1 * p.2.1) p.2.2
theorem rvolT_bd {p : Int × Int × Int} (h : ringT p = true) : 0 ≤ rvolT p ∧ rvolT p ≤ 21205752750 := by
  have a := secI_bd (o := p.1) (i := p.2.1) (h := p.2.2) h
  have r := ringT_t h
  have t := tube_bd (sq := secI p.1 p.2.1) (h := p.2.2) a.1 a.2.1 (by omega) (by omega)
  exact ⟨t.2.2.2.2.1, t.2.2.2.2.2⟩
theorem hvolT_bd {p : Int × Int × Int} (h : ringT p = true) : 0 ≤ hvolT p ∧ hvolT p ≤ 21205752750 := by
  have a := secI_bd (o := p.1) (i := p.2.1) (h := p.2.2) h
  have r := ringT_t h
  have t := tube_bd (sq := p.2.1 * p.2.1) (h := p.2.2) a.2.2.2.2.1 a.2.2.2.2.2 (by omega) (by omega)
  exact ⟨t.2.2.2.2.1, t.2.2.2.2.2⟩
def volI (rs : List (Int × Int × Int)) : Int := fsum rvolT rs
def holI (rs : List (Int × Int × Int)) : Int := fsum hvolT rs
def volumeI (nm : ByteArray) (rs : List (Int × Int × Int)) : Int × Int := if profB nm rs then (volI rs, 0) else (0, 1)
def hollowI (nm : ByteArray) (rs : List (Int × Int × Int)) : Int × Int := if profB nm rs then (holI rs, 0) else (0, 1)

set_option maxHeartbeats 1600000 in
theorem l06Volume_c (g : Nat) (sv : Value) (ps : List (Int × Int × Int)) (w : World) (c1 : w.cell? ⟨g, 1, none⟩ = some sv) (hr : Rd w sv ps.length (trips ps)) (hal : ps.all ringT = true) (hl : ps.length ≤ 32) :
    Calls Try.prog 64 #[.pointer (some ⟨g, 0, none⟩)] w (RetD (.int .i64 (volI ps)) w) := by
  have hbd := fsum_bd (f := rvolT) (by omega) (fun p => rvolT_bd) hal
  have HB := Lib.hid hbd; clear hbd
  have HAL := Lib.hid hal; clear hal
  generalize hn : ps.length = n at *
  have HN := Lib.hid hn; clear hn
  obtain ⟨hn, ao, cap, bb, off, rfl, hao, hcell⟩ := hr.open
  clear hr
  go_enter Try.func64, Try.ntmps64
  have b0 : Below w.heap.size w w := Below.refl _ _
  have z0 : w.heap.size ≤ w.heap.size := Nat.le_refl _
  go_wp2_with fail
  go_loopw [4, 3] (fun i s wr => ∃ (k : Nat), k ≤ n ∧ i = .int .i64 k ∧ s = .int .i64 (fsum rvolT (ps.take k)) ∧ Dr w wr) (fun i _ _ => n - (intOf i).toNat)
  case atStart => exact ⟨0, Nat.zero_le _, rfl, rfl, Dr.refl _⟩
  case round =>
    obtain ⟨k, hk, rfl, rfl, hd⟩ := hrel
    have hb := hd.below
    have m1 := below_cell hb c1
    by_cases hlt : k < n
    · skip
      have b0 := hb
      have hlt_p : k < ps.length := by rw [HN.out]; omega
      have hix_p := ix (P := Try.prog) (T := 28) (cap := cap) Try.underlying28 cells_Ring has_Ring hao (k := k) (by omega) _ rfl
      have hp0 : wr.cell? ⟨bb, off + k * 3, none⟩ = some (.int .i64 (rg ps k).1) := by rw [rg_eq hlt_p]; exact hcell _ b0 _ _ (by omega) (trips_at hlt_p).1
      have hp1 : wr.cell? ⟨bb, off + k * 3 + 1, none⟩ = some (.int .i64 (rg ps k).2.1) := by rw [rg_eq hlt_p]; exact hcell _ b0 _ _ (by omega) (trips_at hlt_p).2.1
      have hp2 : wr.cell? ⟨bb, off + k * 3 + 2, none⟩ = some (.int .i64 (rg ps k).2.2) := by rw [rg_eq hlt_p]; exact hcell _ b0 _ _ (by omega) (trips_at hlt_p).2.2
      have hs := fsum_snoc rvolT ps hlt_p
      have hring := all_at HAL.out hlt_p
      have hrv := fun w' (hd' : Dr wr w') => l06Ring_c (rg ps k).1 (rg ps k).2.1 (rg ps k).2.2 bb (off + k * 3) w' hring (below_cell hd'.below hp0) (below_cell hd'.below hp1) (below_cell hd'.below hp2)
      have he : tubeI (secI (rg ps k).1 (rg ps k).2.1) (rg ps k).2.2 = rvolT (rg ps k) := rfl
      rw [he] at hrv
      have hb1 := HB.out k
      have hb2 := HB.out (k + 1)
      rw [hs] at hb2
      have HS := Lib.hid hs; clear hs
      have HRV := Lib.hid hrv; clear hrv
      clear hcell hring he hp0 hp1 hp2
      generalize rvolT (rg ps k) = z at *
      generalize fsum rvolT (ps.take k) = s at *
      go_wp2_with (go_at_call 62; refine (HRV.out _ (by first | exact Dr.refl _ | exact ⟨_, rfl⟩)).mono ?_; rintro _ w1 ⟨rfl, nd, rfl⟩)
      go_roundw
      case rel => exact ⟨k + 1, by omega, by go_num, by rw [HS.out], (by first | exact Dr.refl _ | exact Dr.next (by assumption) _ | assumption | exact ⟨_, rfl⟩ | exact ⟨_, World.drewN_drewN _ _ _⟩)⟩
      case measure => simp [intOf]; omega
    · obtain rfl : k = n := by omega
      go_wp2
      go_returns
      refine RetD.mk (int_eq ?_) hd
      rw [List.take_of_length_le (by rw [HN.out]; exact Nat.le_refl _)]; rfl

set_option maxHeartbeats 1600000 in
theorem volumeOf_c (nm : ByteArray) (sv : Value) (ps : List (Int × Int × Int)) (w : World) (hr : Rd w sv ps.length (trips ps)) (hal : ps.all ringT = true) (hl : ps.length ≤ 32) :
    Calls Try.prog 72 #[.agg #[.string nm, sv]] w (RetB (.int .i64 (volI ps)) w) := by
  have hbd := fsum_bd (f := rvolT) (by omega) (fun p => rvolT_bd) hal
  have HB := Lib.hid hbd; clear hbd
  have HAL := Lib.hid hal; clear hal
  generalize hn : ps.length = n at *
  have HN := Lib.hid hn; clear hn
  obtain ⟨hn, ao, cap, bb, off, rfl, hao, hcell⟩ := hr.open
  clear hr
  go_enter Try.func72, Try.ntmps72
  have b0 : Below w.heap.size w w := Below.refl _ _
  have z0 : w.heap.size ≤ w.heap.size := Nat.le_refl _
  go_wp2_with fail
  go_loopw [9, 3] (fun i s wr => ∃ (k : Nat), k ≤ n ∧ i = .int .i64 k ∧ s = .int .i64 (fsum rvolT (ps.take k)) ∧ Below w.heap.size w wr ∧ wr.cell? ⟨w.heap.size, 0, none⟩ = some (.string nm) ∧ wr.cell? ⟨w.heap.size, 1, none⟩ = some (.slice ao n cap)) (fun i s _ => n - (intOf i).toNat)
  case atStart => exact ⟨0, Nat.zero_le _, rfl, rfl, (by go_grown), (by simp [go_sem]), (by simp [go_sem])⟩
  case round =>
    obtain ⟨k, hk, rfl, rfl, br0, c0_0_r0, c0_1_r0⟩ := hrel
    have zr0 := br0.size
    by_cases hlt : k < n
    · skip
      have hlt_p : k < ps.length := by rw [HN.out]; omega
      have hix_p := ix (P := Try.prog) (T := 28) (cap := cap) Try.underlying28 cells_Ring has_Ring hao (k := k) (by omega) _ (rfl)
      have hp0 : wr.cell? ⟨bb, off + k * 3, none⟩ = some (.int .i64 (rg ps k).1) := by rw [rg_eq hlt_p]; exact hcell _ br0 _ _ (by omega) (trips_at hlt_p).1
      have hp1 : wr.cell? ⟨bb, off + k * 3 + 1, none⟩ = some (.int .i64 (rg ps k).2.1) := by rw [rg_eq hlt_p]; exact hcell _ br0 _ _ (by omega) (trips_at hlt_p).2.1
      have hp2 : wr.cell? ⟨bb, off + k * 3 + 2, none⟩ = some (.int .i64 (rg ps k).2.2) := by rw [rg_eq hlt_p]; exact hcell _ br0 _ _ (by omega) (trips_at hlt_p).2.2
      have hs := fsum_snoc rvolT ps hlt_p
      have hring := all_at HAL.out hlt_p
      have hrv := fun w' => ringVolume_c (rg ps k).1 (rg ps k).2.1 (rg ps k).2.2 w' hring
      have he : tubeI (secI (rg ps k).1 (rg ps k).2.1) (rg ps k).2.2 = rvolT (rg ps k) := rfl
      rw [he] at hrv
      have hb1 := HB.out k
      have hb2 := HB.out (k + 1)
      rw [hs] at hb2
      have HS := Lib.hid hs; clear hs
      have HRV := Lib.hid hrv; clear hrv
      clear hcell hring he
      generalize rvolT (rg ps k) = z at *
      generalize fsum rvolT (ps.take k) = s at *
      generalize (rg ps k).1 = x0 at *
      generalize (rg ps k).2.1 = x1 at *
      generalize (rg ps k).2.2 = x2 at *
      go_wp2_with fail
      refine (HRV.out _).mono ?_
      rintro _ wr1 ⟨rfl, rr1⟩
      have sr1 : Below wr.heap.size wr wr1 := Below.trans (by go_grown) (rr1.mono (by simp; try omega))
      have br1 := br0.trans (sr1.mono zr0)
      have zr1 := br1.size
      have yr1 := sr1.size
      have c0_0_r1 := below_cell sr1 c0_0_r0; clear c0_0_r0
      have c0_1_r1 := below_cell sr1 c0_1_r0; clear c0_1_r0
      clear rr1
      go_wp2
      go_roundw
      case rel => exact ⟨k + 1, by omega, by go_num, by rw [HS.out], (by first | exact br1 | exact below_drewN br1 _ | go_grown), (by first | exact c0_0_r1 | exact alloc_cell _ c0_0_r1 | exact below_cell (below_drewN (Below.refl _ _) _) c0_0_r1 | simp [go_sem, c0_0_r1]), (by first | exact c0_1_r1 | exact alloc_cell _ c0_1_r1 | exact below_cell (below_drewN (Below.refl _ _) _) c0_1_r1 | simp [go_sem, c0_1_r1])⟩
      case measure => simp [intOf]; omega
    · obtain rfl : k = n := by omega
      go_wp2
      go_returns
      refine RetB.mk (int_eq ?_) br0
      rw [List.take_of_length_le (by rw [HN.out]; exact Nat.le_refl _)]; rfl

end Go.Proofs.Ytpaciehgafobfaa
