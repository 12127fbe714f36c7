/- The mass above a height. -/
import Derived.Test.YtmickkodcclocaaGst
import Derived.Test.YtmickkodcclocaaMom
namespace Go.Proofs.Ytmickkodcclocaa
set_option linter.unusedVariables false
open Go.RowKit Go.Proofs.Bell Go.BigFrame

def abvK (rs : List (Int × Int × Int)) (d h : Int) : Nat → Int
  | 0 => 0
  | k + 1 => if h ≤ heightI (rs.take k) then abvK rs d h k + rmassT d (rg rs k) else abvK rs d h k
theorem abvK_bd {rs : List (Int × Int × Int)} {d h : Int} (h1 : 0 ≤ d) (h2 : d ≤ 20000) (hal : rs.all ringT = true) : ∀ k, k ≤ rs.length → 0 ≤ abvK rs d h k ∧ abvK rs d h k ≤ 424115055 * k
  | 0, _ => by simp [abvK]
  | k + 1, hk => by
    have a := abvK_bd (h := h) h1 h2 hal k (by omega)
    have b := rmassT_bd h1 h2 (all_at hal (k := k) (by omega))
    have e : (424115055 : Int) * ((k + 1 : Nat) : Int) = 424115055 * k + 424115055 := by rw [Int.natCast_add, Int.mul_add]; simp
    rw [abvK]
    split <;> omega
def aboveJ (rs : List (Int × Int × Int)) (d h : Int) : Int × Int := if inB h 0 (heightI rs) then (abvK rs d h rs.length, 0) else (0, 2)
def aboveI (nm : ByteArray) (rs : List (Int × Int × Int)) (d h : Int) : Int × Int := if denseI nm rs d = 0 then aboveJ rs d h else (0, denseI nm rs d)

set_option maxHeartbeats 3200000 in
theorem implMassAbove_c (nm : ByteArray) (sv : Value) (ps : List (Int × Int × Int)) (d q : Int) (w : World) (hnm : nm.size ≤ maxLen) (hr : Rd w sv ps.length (trips ps)) :
    Calls Try.prog 68 #[.agg #[.string nm, sv], .int .i64 d, .int .i64 q] w (RetB (.tuple #[.int .i64 (aboveI nm ps d q).1, .int .i64 (aboveI nm ps d q).2]) w) := by
  have hok := fun w' (hb : Below w.heap.size w w') => dense_c nm sv ps d w' hnm (hr.later hb)
  by_cases t0 : ¬ denseI nm ps d = 0
  · have he : aboveI nm ps d q = (0, denseI nm ps d) := by simp [aboveI, t0]
    rw [he]
    clear he
    have HOK := Lib.hid hok; clear hok
    generalize denseI nm ps d = code at *
    go_enter Try.func68, Try.ntmps68
    have b0 : Below w.heap.size w w := Below.refl _ _
    have z0 : w.heap.size ≤ w.heap.size := Nat.le_refl _
    go_wp2_with fail
    refine (HOK.out _ (by go_grown)).mono ?_
    rintro _ w1 ⟨rfl, r1⟩
    have s1 : Below w.heap.size w w1 := Below.trans (by go_grown) (r1.mono (by simp; try omega))
    have b1 := b0.trans (s1.mono z0)
    have z1 := b1.size
    have y1 := s1.size
    have c0_0_1 := below_cell r1 (p := ⟨w.heap.size, 0, none⟩) (v := .string nm) (by simp [go_sem])
    have c0_1_1 := below_cell r1 (p := ⟨w.heap.size, 1, none⟩) (v := sv) (by simp [go_sem])
    clear r1
    go_wp2
    go_returns
    exact RetB.mk (rfl) b1
  · have t0 : denseI nm ps d = 0 := Classical.not_not.1 t0
    rw [t0] at hok
    have HOK := Lib.hid hok; clear hok
    obtain ⟨hp, hd1, hd2⟩ := denseI_zero t0
    obtain ⟨hl1, hl2, hal, hht⟩ := profB_t hp
    have he : aboveI nm ps d q = aboveJ ps d q := by simp [aboveI, t0]
    rw [he]
    clear he hht hp t0
    have hres : aboveJ ps d q = if inB q 0 (heightI ps) then (abvK ps d q ps.length, 0) else (0, 2) := rfl
    generalize aboveJ ps d q = R at *
    have hm := fun w' (hb : Below w.heap.size w w') => ringMasses_c nm sv ps d w' (hr.later hb) hal hl2 (by omega) (by omega)
    have hbd := fun k hk => abvK_bd (rs := ps) (d := d) (h := q) (by omega) hd2 hal k hk
    have hhb := fun k => height_bd hal k
    have hml := massesI_len ps d
    have hmg := fun k (h : k < ps.length) => masses_getD ps d h
    have hfin : heightI (ps.take ps.length) = heightI ps := by rw [List.take_length]
    have HM := Lib.hid hm; clear hm
    have HB := Lib.hid hbd; clear hbd
    have HHB := Lib.hid hhb; clear hhb
    have HAL := Lib.hid hal; clear hal
    have HMG := Lib.hid hmg; clear hmg
    have HFIN := Lib.hid hfin; clear hfin
    generalize massesI ps d = ms at *
    generalize heightI ps = hI at *
    have HRES := Lib.hid hres; clear hres
    generalize hn : ps.length = n at *
    have HN := Lib.hid hn; clear hn
    obtain ⟨hn, ao, cap, bb, off, rfl, hao, hcell⟩ := hr.open
    clear hr
    go_enter Try.func68, Try.ntmps68
    have b0 : Below w.heap.size w w := Below.refl _ _
    have z0 : w.heap.size ≤ w.heap.size := Nat.le_refl _
    go_wp2_with fail
    refine (HOK.out _ (by go_grown)).mono ?_
    rintro _ w1 ⟨rfl, r1⟩
    have s1 : Below w.heap.size w w1 := Below.trans (by go_grown) (r1.mono (by simp; try omega))
    have b1 := b0.trans (s1.mono z0)
    have z1 := b1.size
    have y1 := s1.size
    have c0_0_1 := below_cell r1 (p := ⟨w.heap.size, 0, none⟩) (v := .string nm) (by simp [go_sem])
    have c0_1_1 := below_cell r1 (p := ⟨w.heap.size, 1, none⟩) (v := .slice ao n cap) (by simp [go_sem])
    clear r1
    go_wp2_with fail
    refine (HM.out _ b1).mono ?_
    rintro _ w2 ⟨x2, rfl, n2, r2⟩
    have s2 := r2
    have b2 := b1.trans (s2.mono z1)
    have z2 := b2.size
    have y2 := s2.size
    have c0_0_2 := below_cell s2 c0_0_1; clear c0_0_1
    have c0_1_2 := below_cell s2 c0_1_1; clear c0_1_1
    clear r2
    have hrd := Rd.of_own n2
    clear n2
    rw [hml] at hrd
    obtain ⟨hn2, ao2, cap2, bb2, off2, he2, hao2, hcell2⟩ := hrd.open
    subst he2
    clear hcell2
    go_wp2_with fail
    go_loopw [23, 9, 10] (fun i s t wr => ∃ (k : Nat), k ≤ n ∧ i = .int .i64 k ∧ s = .int .i64 (abvK ps d q k) ∧ t = .int .i64 (heightI (ps.take k)) ∧ Rd wr (.slice ao2 n cap2) n (ints ms) ∧ Below w.heap.size w wr ∧ wr.cell? ⟨w.heap.size, 0, none⟩ = some (.string nm) ∧ wr.cell? ⟨w.heap.size, 1, none⟩ = some (.slice ao n cap)) (fun i s t _ => n - (intOf i).toNat)
    case atStart => exact ⟨0, Nat.zero_le _, rfl, rfl, rfl, hrd, b2, c0_0_2, c0_1_2⟩
    case round =>
      obtain ⟨k, hk, rfl, rfl, rfl, hrm, br0, c0_0_r0, c0_1_r0⟩ := hrel
      have zr0 := br0.size
      have HRM := Lib.hid hrm; clear hrm
      by_cases hlt : k < n
      · skip
        have hlt_p : k < ps.length := by rw [HN.out]; omega
        have hix_p := ix (P := Try.prog) (T := 26) (cap := cap) Try.underlying26 cells_Ring has_Ring hao (k := k) (by omega) _ (rfl)
        have hp0 : wr.cell? ⟨bb, off + k * 3, none⟩ = some (.int .i64 (rg ps k).1) := by rw [rg_eq hlt_p]; exact hcell _ br0 _ _ (by omega) (trips_at hlt_p).1
        have hp1 : wr.cell? ⟨bb, off + k * 3 + 1, none⟩ = some (.int .i64 (rg ps k).2.1) := by rw [rg_eq hlt_p]; exact hcell _ br0 _ _ (by omega) (trips_at hlt_p).2.1
        have hp2 : wr.cell? ⟨bb, off + k * 3 + 2, none⟩ = some (.int .i64 (rg ps k).2.2) := by rw [rg_eq hlt_p]; exact hcell _ br0 _ _ (by omega) (trips_at hlt_p).2.2
        obtain ⟨_, _, _, bb3, off3, he3, hao3, hcell3⟩ := HRM.out.open
        injection he3 with e1 e2 e3
        subst e1 e3
        have hltm : k < ms.length := by omega
        have hixm := ix (P := Try.prog) (T := 41) (cap := cap2) Try.underlying41 cells_int64 has_int64 hao3 (k := k) (by omega) _ rfl
        rw [Nat.mul_one] at hixm
        have hcm : wr.cell? ⟨bb3, off3 + k, none⟩ = some (.int .i64 (rmassT d (rg ps k))) := by
          have := hcell3 _ (Below.refl _ _) _ _ (by omega) (intsAt hltm)
          rw [← getD_eq hltm, HMG.out k hlt] at this
          exact this
        have hs : abvK ps d q (k + 1) = if q ≤ heightI (ps.take k) then abvK ps d q k + rmassT d (rg ps k) else abvK ps d q k := rfl
        have ht := heightI_snocg ps hlt_p
        have hring := all_at HAL.out hlt_p
        have r := ringT_t hring
        have a := rmassT_bd (by omega) hd2 hring
        have hb1 := HB.out k hk
        have hb3 := HHB.out k
        have HS := Lib.hid hs; clear hs
        have HT := Lib.hid ht; clear ht
        clear hcell hring hcell3 hp0 hp1
        generalize rmassT d (rg ps k) = z at *
        generalize abvK ps d q k = s at *
        generalize heightI (ps.take k) = t at *
        generalize (rg ps k).2.2 = x2 at *
        by_cases t2 : q ≤ t
        · go_wp2
          go_roundw
          case rel => exact ⟨k + 1, by omega, by go_num, by rw [HS.out, if_pos t2], by rw [HT.out], HRM.out, (by first | exact br0 | exact below_drewN br0 _ | go_grown), (by first | exact c0_0_r0 | exact alloc_cell _ c0_0_r0 | exact below_cell (below_drewN (Below.refl _ _) _) c0_0_r0 | simp [go_sem, c0_0_r0]), (by first | exact c0_1_r0 | exact alloc_cell _ c0_1_r0 | exact below_cell (below_drewN (Below.refl _ _) _) c0_1_r0 | simp [go_sem, c0_1_r0])⟩
          case measure => simp [intOf]; omega
        · go_wp2
          go_roundw
          case rel => exact ⟨k + 1, by omega, by go_num, by rw [HS.out, if_neg t2], by rw [HT.out], HRM.out, (by first | exact br0 | exact below_drewN br0 _ | go_grown), (by first | exact c0_0_r0 | exact alloc_cell _ c0_0_r0 | exact below_cell (below_drewN (Below.refl _ _) _) c0_0_r0 | simp [go_sem, c0_0_r0]), (by first | exact c0_1_r0 | exact alloc_cell _ c0_1_r0 | exact below_cell (below_drewN (Below.refl _ _) _) c0_1_r0 | simp [go_sem, c0_1_r0])⟩
          case measure => simp [intOf]; omega
      · obtain rfl : k = n := by omega
        have hfin := HFIN.out
        rw [hfin]
        clear hfin hcell
        have hw := fun w' => within_c q 0 hI w'
        cases t1 : inB q 0 hI <;> rw [t1] at hw <;>
        · have HW := Lib.hid hw; clear hw
          go_wp2_with fail
          refine (HW.out _).mono ?_
          rintro _ _ ⟨rfl, rfl⟩
          go_wp2
          go_returns
          exact RetB.mk (ints_eq (by rw [HRES.out, t1]; simp [HN.out]) (by rw [HRES.out, t1]; simp)) br0

end Go.Proofs.Ytmickkodcclocaa
