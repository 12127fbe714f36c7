/- The moment of inertia. -/
import Derived.Test.YtmickkodcclocaaGH
namespace Go.Proofs.Ytmickkodcclocaa
set_option linter.unusedVariables false
open Go.RowKit Go.Proofs.Bell Go.BigFrame

def radT (p : Int × Int × Int) : Int := rnd (p.1 * p.1 + p.2.1 * p.2.1) 20000
def momT (d : Int) (p : Int × Int × Int) : Int := rmassT d p * radT p
def momOfI (nm : ByteArray) (rs : List (Int × Int × Int)) (d : Int) : Int × Int := if denseI nm rs d = 0 then (fsum (momT d) rs, 0) else (0, denseI nm rs d)
theorem radT_bd {p : Int × Int × Int} (h : ringT p = true) : 0 ≤ p.1 * p.1 ∧ 0 ≤ p.2.1 * p.2.1 ∧ p.1 * p.1 ≤ 22500000000 ∧ p.2.1 * p.2.1 ≤ 22500000000 ∧ 0 ≤ radT p ∧ radT p ≤ 2250000 := by
  have s := secI_bd (o := p.1) (i := p.2.1) (h := p.2.2) h
  have c := rnd_nonneg (a := p.1 * p.1 + p.2.1 * p.2.1) (b := 20000) (by omega) (by omega)
  have e := rnd_le (a := p.1 * p.1 + p.2.1 * p.2.1) (b := 20000) (q := 2250000) (by omega) (by omega) (by omega)
  unfold radT
  omega
theorem momT_bd {d : Int} (h1 : 0 ≤ d) (h2 : d ≤ 20000) {p : Int × Int × Int} (h : ringT p = true) : 0 ≤ momT d p ∧ momT d p ≤ 954258873750000 := by
  have a := rmassT_bd h1 h2 h
  have b := radT_bd h
  have c := mul_bd a.2.2.1 b.2.2.2.2.1 a.2.2.2 b.2.2.2.2.2
  unfold momT
  omega
theorem masses_getD (ps : List (Int × Int × Int)) (d : Int) {k : Nat} (h : k < ps.length) : (massesI ps d).getD k 0 = rmassT d (rg ps k) := by
  rw [rg_eq h]; simp [massesI, List.getD, h]
theorem massesI_len (ps : List (Int × Int × Int)) (d : Int) : (massesI ps d).length = ps.length := by simp [massesI]

set_option maxHeartbeats 3200000 in
theorem moment_c (nm : ByteArray) (sv : Value) (ps : List (Int × Int × Int)) (d : Int) (w : World) (hr : Rd w sv ps.length (trips ps)) (hal : ps.all ringT = true) (hl : ps.length ≤ 32) (h1 : 0 ≤ d) (h2 : d ≤ 20000) :
    Calls Try.prog 140 #[.agg #[.string nm, sv], .int .i64 d] w (RetB (.int .i64 (fsum (momT d) ps)) w) := by
  have hm := fun w' (hb : Below w.heap.size w w') => ringMasses_c nm sv ps d w' (hr.later hb) hal hl h1 h2
  have hbd := fsum_bd (f := momT d) (by omega) (fun p => momT_bd h1 h2) hal
  have hml := massesI_len ps d
  have hmg := fun k (h : k < ps.length) => masses_getD ps d h
  have HM := Lib.hid hm; clear hm
  have HB := Lib.hid hbd; clear hbd
  have HAL := Lib.hid hal; clear hal
  have HMG := Lib.hid hmg; clear hmg
  generalize massesI ps d = ms at *
  generalize hn : ps.length = n at *
  have HN := Lib.hid hn; clear hn
  obtain ⟨hn, ao, cap, bb, off, rfl, hao, hcell⟩ := hr.open
  clear hr
  go_enter Try.func140, Try.ntmps140
  have b0 : Below w.heap.size w w := Below.refl _ _
  have z0 : w.heap.size ≤ w.heap.size := Nat.le_refl _
  go_wp2_with fail
  refine (HM.out _ (by go_grown)).mono ?_
  rintro _ w1 ⟨x1, rfl, n1, r1⟩
  have s1 : Below w.heap.size w w1 := Below.trans (by go_grown) (r1.mono (by simp; try omega))
  have b1 := b0.trans (s1.mono z0)
  have z1 := b1.size
  have y1 := s1.size
  have c0_0_1 := below_cell r1 (p := ⟨w.heap.size, 0, none⟩) (v := .string nm) (by simp [go_sem])
  have c0_1_1 := below_cell r1 (p := ⟨w.heap.size, 1, none⟩) (v := .slice ao n cap) (by simp [go_sem])
  clear r1
  have hrd := Rd.of_own n1
  clear n1
  rw [hml] at hrd
  obtain ⟨hn2, ao2, cap2, bb2, off2, rfl, hao2, hcell2⟩ := hrd.open
  clear hcell2
  go_wp2_with fail
  go_loopw [15, 6] (fun i s wr => ∃ (k : Nat), k ≤ n ∧ i = .int .i64 k ∧ s = .int .i64 (fsum (momT d) (ps.take k)) ∧ Rd wr (.slice ao2 n cap2) n (ints ms) ∧ Below w.heap.size w wr ∧ wr.cell? ⟨w.heap.size, 0, none⟩ = some (.string nm) ∧ wr.cell? ⟨w.heap.size, 1, none⟩ = some (.slice ao n cap)) (fun i s _ => n - (intOf i).toNat)
  case atStart => exact ⟨0, Nat.zero_le _, rfl, rfl, hrd, b1, c0_0_1, c0_1_1⟩
  case round =>
    obtain ⟨k, hk, rfl, rfl, hrm, br0, c0_0_r0, c0_1_r0⟩ := hrel
    have zr0 := br0.size
    have HRM := Lib.hid hrm; clear hrm
    by_cases hlt : k < n
    · skip
      have hlt_p : k < ps.length := by rw [HN.out]; omega
      have hix_p := ix (P := Try.prog) (T := 26) (cap := cap) Try.underlying26 cells_Ring has_Ring hao (k := k) (by omega) _ (rfl)
      have hp0 : wr.cell? ⟨bb, off + k * 3, none⟩ = some (.int .i64 (rg ps k).1) := by rw [rg_eq hlt_p]; exact hcell _ br0 _ _ (by omega) (trips_at hlt_p).1
      have hp1 : wr.cell? ⟨bb, off + k * 3 + 1, none⟩ = some (.int .i64 (rg ps k).2.1) := by rw [rg_eq hlt_p]; exact hcell _ br0 _ _ (by omega) (trips_at hlt_p).2.1
      have hp2 : wr.cell? ⟨bb, off + k * 3 + 2, none⟩ = some (.int .i64 (rg ps k).2.2) := by rw [rg_eq hlt_p]; exact hcell _ br0 _ _ (by omega) (trips_at hlt_p).2.2
      obtain ⟨_, _, _, bb3, off3, he3, hao3, hcell3⟩ := HRM.out.open
      injection he3 with e1 e2 e3
      subst e1 e3
      have hltm : k < ms.length := by omega
      have hixm := ix (P := Try.prog) (T := 41) (cap := cap2) Try.underlying41 cells_int64 has_int64 hao3 (k := k) (by omega) _ rfl
      rw [Nat.mul_one] at hixm
      have hcm : ∀ o, (wr.alloc o).cell? ⟨bb3, off3 + k, none⟩ = some (.int .i64 (rmassT d (rg ps k))) := fun o => alloc_cell _ (by
        have := hcell3 _ (Below.refl _ _) _ _ (by omega) (intsAt hltm)
        rw [← getD_eq hltm, HMG.out k hlt] at this
        exact this)
      have hs := fsum_snoc (momT d) ps hlt_p
      have hring := all_at HAL.out hlt_p
      obtain ⟨r1, r2, r3, r4, r5, r6⟩ := radT_bd hring
      have a := rmassT_bd h1 h2 hring
      have hb3 := mul_bd a.2.2.1 r5 a.2.2.2 r6
      have hn3 := fun w' => nearest_c ((rg ps k).1 * (rg ps k).1 + (rg ps k).2.1 * (rg ps k).2.1) 20000 w' (by omega) (by omega) (by omega) (by omega)
      have he : rnd ((rg ps k).1 * (rg ps k).1 + (rg ps k).2.1 * (rg ps k).2.1) 20000 = radT (rg ps k) := rfl
      rw [he] at hn3
      have hb1 := HB.out k
      have hb2 := HB.out (k + 1)
      have hmt : momT d (rg ps k) = rmassT d (rg ps k) * radT (rg ps k) := rfl
      rw [hs, hmt] at hb2
      rw [hmt] at hs
      have HS := Lib.hid hs; clear hs
      have HN3 := Lib.hid hn3; clear hn3
      clear hcell hring he hcell3 hmt
      generalize radT (rg ps k) = q at *
      generalize rmassT d (rg ps k) = z at *
      generalize fsum (momT d) (ps.take k) = s at *
      generalize (rg ps k).1 = x0 at *
      generalize (rg ps k).2.1 = x1 at *
      generalize (rg ps k).2.2 = x2 at *
      have q1 : IntKind.i64.wrap (x0 * x0) = x0 * x0 := IntWalk.i64_in _ (by omega)
      have q2 : IntKind.i64.wrap (x1 * x1) = x1 * x1 := IntWalk.i64_in _ (by omega)
      have q3 : IntKind.i64.wrap (x0 * x0 + x1 * x1) = x0 * x0 + x1 * x1 := IntWalk.i64_in _ (by omega)
      have q4 : IntKind.i64.wrap (z * q) = z * q := IntWalk.i64_in _ (by omega)
      have q5 : IntKind.i64.wrap (s + z * q) = s + z * q := IntWalk.i64_in _ (by omega)
      go_wp2_with fail
      go_quiet ((go_at_call 106; exact quietD (HN3.out _)))
      clear q1 q2 q3 q4 q5
      have sq : Below wr.heap.size wr (((wr.alloc (Obj.cells #[.int .i64 x0, .int .i64 x1, .int .i64 x2] 80))).drewN nq) := below_drewN (by go_grown) _
      have sr1 := sq
      have br1 := br0.trans (sr1.mono zr0)
      have zr1 := br1.size
      have yr1 := sr1.size
      have c0_0_r1 := below_cell sr1 c0_0_r0; clear c0_0_r0
      have c0_1_r1 := below_cell sr1 c0_1_r0; clear c0_1_r0
      go_wp2
      go_roundw
      case rel => exact ⟨k + 1, by omega, by go_num, by rw [HS.out], HRM.out.later sr1, (by first | exact br1 | exact below_drewN br1 _ | go_grown), (by first | exact c0_0_r1 | exact alloc_cell _ c0_0_r1 | exact below_cell (below_drewN (Below.refl _ _) _) c0_0_r1 | simp [go_sem, c0_0_r1]), (by first | exact c0_1_r1 | exact alloc_cell _ c0_1_r1 | exact below_cell (below_drewN (Below.refl _ _) _) c0_1_r1 | simp [go_sem, c0_1_r1])⟩
      case measure => simp [intOf]; omega
    · obtain rfl : k = n := by omega
      go_wp2
      go_returns
      refine RetB.mk (int_eq ?_) br0
      rw [List.take_of_length_le (by rw [HN.out]; exact Nat.le_refl _)]

set_option maxHeartbeats 800000 in
theorem implMomentOf_c (nm : ByteArray) (sv : Value) (ps : List (Int × Int × Int)) (d : Int) (w : World) (hnm : nm.size ≤ maxLen) (hr : Rd w sv ps.length (trips ps)) :
    Calls Try.prog 59 #[.agg #[.string nm, sv], .int .i64 d] w (RetB (.tuple #[.int .i64 (momOfI nm ps d).1, .int .i64 (momOfI nm ps d).2]) w) := by
  have hok := fun w' (hb : Below w.heap.size w w') => dense_c nm sv ps d w' hnm (hr.later hb)
  by_cases t0 : ¬ denseI nm ps d = 0
  · have he : momOfI nm ps d = (0, denseI nm ps d) := by simp [momOfI, t0]
    rw [he]
    clear he
    have HOK := Lib.hid hok; clear hok
    generalize denseI nm ps d = code at *
    go_enter Try.func59, Try.ntmps59
    have b0 : Below w.heap.size w w := Below.refl _ _
    have z0 : w.heap.size ≤ w.heap.size := Nat.le_refl _
    go_wp2_with fail
    refine (HOK.out _ (by go_grown)).mono ?_
    rintro _ w1 ⟨rfl, r1⟩
    have s1 : Below w.heap.size w w1 := Below.trans (by go_grown) (r1.mono (by simp; try omega))
    have b1 := b0.trans (s1.mono z0)
    have z1 := b1.size
    have y1 := s1.size
    have c0_0_1 := below_cell r1 (p := ⟨w.heap.size, 0, none⟩) (v := .string nm) (by simp [go_sem])
    have c0_1_1 := below_cell r1 (p := ⟨w.heap.size, 1, none⟩) (v := sv) (by simp [go_sem])
    clear r1
    go_wp2
    go_returns
    exact RetB.mk (rfl) b1
  · have t0 : denseI nm ps d = 0 := Classical.not_not.1 t0
    rw [t0] at hok
    have HOK := Lib.hid hok; clear hok
    obtain ⟨hp, hd1, hd2⟩ := denseI_zero t0
    obtain ⟨hl1, hl2, hal, hht⟩ := profB_t hp
    have he : momOfI nm ps d = (fsum (momT d) ps, 0) := by simp [momOfI, t0]
    rw [he]
    clear he
    have hv := fun w' (hb : Below w.heap.size w w') => moment_c nm sv ps d w' (hr.later hb) hal hl2 (by omega) (by omega)
    have HV := Lib.hid hv; clear hv
    go_enter Try.func59, Try.ntmps59
    have b0 : Below w.heap.size w w := Below.refl _ _
    have z0 : w.heap.size ≤ w.heap.size := Nat.le_refl _
    go_wp2_with fail
    refine (HOK.out _ (by go_grown)).mono ?_
    rintro _ w1 ⟨rfl, r1⟩
    have s1 : Below w.heap.size w w1 := Below.trans (by go_grown) (r1.mono (by simp; try omega))
    have b1 := b0.trans (s1.mono z0)
    have z1 := b1.size
    have y1 := s1.size
    have c0_0_1 := below_cell r1 (p := ⟨w.heap.size, 0, none⟩) (v := .string nm) (by simp [go_sem])
    have c0_1_1 := below_cell r1 (p := ⟨w.heap.size, 1, none⟩) (v := sv) (by simp [go_sem])
    clear r1
    go_wp2_with fail
    refine (HV.out _ b1).mono ?_
    rintro _ w2 ⟨rfl, r2⟩
    have s2 := r2
    have b2 := b1.trans (s2.mono z1)
    have z2 := b2.size
    have y2 := s2.size
    have c0_0_2 := below_cell s2 c0_0_1; clear c0_0_1
    have c0_1_2 := below_cell s2 c0_1_1; clear c0_1_1
    clear r2
    go_wp2
    go_returns
    exact RetB.mk (rfl) b2

end Go.Proofs.Ytmickkodcclocaa
