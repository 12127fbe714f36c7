/- The raw partials: the reference. -/
import Derived.Test.YtmeeibcbhjifbaaRaw
namespace Go.Proofs.Ytmeeibcbhjifbaa
set_option linter.unusedVariables false
open Go.RowKit Go.Proofs.Bell Go.BigFrame

set_option maxRecDepth 100000 in
set_option maxHeartbeats 3200000 in
theorem l08Moment_c (g : Nat) (wv : Value) (ws : List (List Int)) (vw : Value) (walls : List Int) (k : Nat) (w : World) (c1 : w.cell? ⟨g, 1, none⟩ = some wv) (hw : RdSS w wv ws) (h : Rd w vw walls.length (ints walls)) (hk : k < ws.length)
    (hrl : (ws.getD k []).length = walls.length) (hl : walls.length ≤ 8) (hwb : ∀ z, 0 ≤ walls.getD z 0 ∧ walls.getD z 0 ≤ 150000) (hrb : ∀ z, 0 ≤ (ws.getD k []).getD z 0 ∧ (ws.getD k []).getD z 0 ≤ 1000) :
    Calls Try.prog 110 #[.pointer (some ⟨g, 0, none⟩), vw, .int .i64 k] w (RetD (.int .i64 (momK walls (ws.getD k []) walls.length)) w) := by
  have hbd := momK_bd hwb hrb
  have hpb := prodm_bd hwb hrb
  have hst := fun z => (show momK walls (ws.getD k []) (z + 1) = momK walls (ws.getD k []) z + (ws.getD k []).getD z 0 * walls.getD z 0 from rfl)
  obtain ⟨us, hus, hr, hrow⟩ := hw
  have hrow := hrow k hk
  have hcr := fun w' (hb : Below w.heap.size w w') => hr.later hb
  generalize hnw : ws.length = nw at *
  obtain ⟨hn2, ao2, cap2, b2, off2, rfl, hao2, hcell2⟩ := hr.open
  have hix2 := ix (P := Try.prog) (T := 39) (cap := cap2) Try.underlying39 cells_SS has_SS hao2 (k := k) hk _ rfl
  rw [Nat.mul_one] at hix2
  have hcr2 := hcell2
  clear hcr hr
  have hku : k < us.length := by omega
  generalize ws.getD k [] = row at *
  rw [hrl] at hrow
  generalize hnn : walls.length = n at *
  obtain ⟨hn3, ao3, cap3, b3, off3, rfl, hao3, hcell3⟩ := h.open
  have hug := getDv hku
  generalize us.getD k nv = u at *
  obtain ⟨hn4, ao4, cap4, b4, off4, rfl, hao4, hcell4⟩ := hrow.open
  clear hrow h
  have HBD := Lib.hid hbd; clear hbd
  have HPB := Lib.hid hpb; clear hpb
  have HST := Lib.hid hst; clear hst
  have HNN := Lib.hid hnn; clear hnn
  have HRL := Lib.hid hrl; clear hrl
  have HNW := Lib.hid hnw; clear hnw
  have HUS := Lib.hid hus; clear hus
  have HUG := Lib.hid hug; clear hug
  have HC2 := Lib.hid hcell2; clear hcell2
  have HC3 := Lib.hid hcell3; clear hcell3
  have HC4 := Lib.hid hcell4; clear hcell4
  clear hwb hrb hcr2
  go_enter Try.func110, Try.ntmps110
  go_wp2_with fail
  go_loopw [8, 7] (fun i s wr => ∃ (z : Nat), z ≤ n ∧ i = .int .i64 z ∧ s = .int .i64 (momK walls row z) ∧ Dr w wr) (fun i _ _ => n - (intOf i).toNat)
  case atStart => exact ⟨0, Nat.zero_le _, rfl, rfl, Dr.refl _⟩
  case round =>
    obtain ⟨z, hz, rfl, rfl, hd⟩ := hrel
    have hb := hd.below
    by_cases hlt : z < n
    · have e1 := below_cell hb c1
      have hrc : wr.cell? ⟨b2, off2 + k, none⟩ = some (.slice ao4 n cap4) := HC2.out _ hb _ _ (by omega) HUG.out
      have hix3 := ix (P := Try.prog) (T := 38) (cap := cap3) Try.underlying38 cells_int64 has_int64 hao3 (k := z) hlt _ rfl
      rw [Nat.mul_one] at hix3
      have hix4 := ix (P := Try.prog) (T := 38) (cap := cap4) Try.underlying38 cells_int64 has_int64 hao4 (k := z) hlt _ rfl
      rw [Nat.mul_one] at hix4
      have hlw : z < walls.length := by rw [HNN.out]; exact hlt
      have hlr : z < row.length := by rw [HRL.out]; exact hlt
      have hw1 : wr.cell? ⟨b3, off3 + z, none⟩ = some (.int .i64 (walls.getD z 0)) := by rw [getD_eq hlw]; exact HC3.out _ hb _ _ (by omega) (intsAt hlw)
      have hr1 : wr.cell? ⟨b4, off4 + z, none⟩ = some (.int .i64 (row.getD z 0)) := by rw [getD_eq hlr]; exact HC4.out _ hb _ _ (by omega) (intsAt hlr)
      have hbz := HBD.out z
      have hpz := HPB.out z
      have hs := HST.out z
      have HS := Lib.hid hs; clear hs
      generalize walls.getD z 0 = x at *
      generalize row.getD z 0 = y at *
      generalize momK walls row z = s at *
      have g1 : IntKind.i64.wrap (y * x) = y * x := IntWalk.i64_in _ (by omega)
      have g2 : IntKind.i64.wrap (s + y * x) = s + y * x := IntWalk.i64_in _ (by omega)
      go_wp2_with fail
      go_quiet (fail)
      clear g1 g2
      go_wp2
      go_roundw
      case rel => exact ⟨z + 1, by omega, by go_num, by rw [HS.out], Dr.trans hd ⟨_, rfl⟩⟩
      case measure => simp [intOf]; omega
    · obtain rfl : z = n := by omega
      go_wp2
      go_returns
      exact RetD.mk rfl hd

set_option maxHeartbeats 800000 in
theorem l08Area_c (g : Nat) (sv : Value) (ps : List (Int × Int × Int)) (w : World) (c1 : w.cell? ⟨g, 1, none⟩ = some sv) (hr : Rd w sv ps.length (trips ps)) (hl : 1 ≤ ps.length) (hal : ps.all ringT = true) :
    Calls Try.prog 111 #[.pointer (some ⟨g, 0, none⟩)] w (RetS (.int .i64 (lipI ps)) w) := by
  have hring := ringT_t (all_at hal (show 0 < ps.length by omega))
  have hlb := lip_bd (o := (rg ps 0).1) (by omega) (by omega)
  have hm := fun w' => l01Div_c (2 * (rg ps 0).1 * (2 * (rg ps 0).1)) 1000000 w' (by omega) (by omega) (by omega) (by omega)
  have HM := Lib.hid hm; clear hm
  unfold lipI
  generalize hn : ps.length = n at *
  have HN := Lib.hid hn; clear hn
  obtain ⟨hn, ao, cap, bb, off, rfl, hao, hcell⟩ := hr.open
  clear hr
  have b0 : Below w.heap.size w w := Below.refl _ _
  have z0 : w.heap.size ≤ w.heap.size := Nat.le_refl _
  have hlt_p : 0 < ps.length := by rw [HN.out]; omega
  have hix_p := ix (P := Try.prog) (T := 29) (cap := cap) Try.underlying29 cells_Ring has_Ring hao (k := 0) (by omega) 0 rfl
  rw [Nat.zero_mul, Nat.add_zero] at hix_p
  have hp0 : w.cell? ⟨bb, off, none⟩ = some (.int .i64 (rg ps 0).1) := by
    have := hcell _ b0 _ _ (by omega) (trips_at hlt_p).1
    rw [rg_eq hlt_p]
    simpa using this
  clear hcell hao
  generalize (rg ps 0).1 = x at *
  generalize rnd (2 * x * (2 * x)) 1000000 = r at *
  go_enter Try.func111, Try.ntmps111
  go_wp2_with fail
  refine (HM.out _).mono ?_
  rintro _ _ ⟨rfl, rfl⟩
  go_wp2
  go_returns
  exact RetS.mk rfl

end Go.Proofs.Ytmeeibcbhjifbaa
