/- The ring at a height. -/
import Derived.Test.YtddkjcdnomoglaaBest3
namespace Go.Proofs.Ytddkjcdnomoglaa
set_option linter.unusedVariables false
open Go.RowKit Go.Proofs.Bell Go.BigFrame

def askI (nm : ByteArray) (rs : List (Int × Int × Int)) (h : Int) : Int := if profB nm rs then (if inB h 0 (heightI rs - 1) then 0 else 2) else 1
def atK (rs : List (Int × Int × Int)) (h : Int) : Nat := (List.range rs.length).findIdx (fun j => decide (h < heightI (rs.take (j + 1))))
theorem atK_eq {rs : List (Int × Int × Int)} {h : Int} {k : Nat} (hk : k < rs.length) (ha : (List.range k).all (fun j => decide (heightI (rs.take (j + 1)) ≤ h)) = true) (h1 : h < heightI (rs.take (k + 1))) : atK rs h = k := by
  unfold atK
  rw [List.findIdx_eq (by simpa using hk)]
  refine ⟨by simpa using h1, fun j hj => ?_⟩
  have := List.all_eq_true.1 ha j (List.mem_range.2 hj)
  simp at this ⊢
  exact this
theorem atK_end {rs : List (Int × Int × Int)} {h : Int} (hl : 1 ≤ rs.length) (ha : (List.range rs.length).all (fun j => decide (heightI (rs.take (j + 1)) ≤ h)) = true) (h1 : h < heightI rs) : False := by
  have := List.all_eq_true.1 ha (rs.length - 1) (List.mem_range.2 (by omega))
  rw [show rs.length - 1 + 1 = rs.length by omega, List.take_length] at this
  simp at this
  omega
theorem atK_lt {rs : List (Int × Int × Int)} {h : Int} (hl : 1 ≤ rs.length) (h1 : h < heightI rs) : atK rs h < rs.length := by
  have : (List.range rs.length).findIdx (fun j => decide (h < heightI (rs.take (j + 1)))) < (List.range rs.length).length := by
    rw [List.findIdx_lt_length]
    refine ⟨rs.length - 1, List.mem_range.2 (by omega), ?_⟩
    rw [show rs.length - 1 + 1 = rs.length by omega, List.take_length]
    simpa using h1
  simpa [atK] using this

set_option maxHeartbeats 1600000 in
theorem l05At_c (g : Nat) (sv : Value) (ps : List (Int × Int × Int)) (h : Int) (w : World) (c1 : w.cell? ⟨g, 1, none⟩ = some sv) (hr : Rd w sv ps.length (trips ps)) (hal : ps.all ringT = true) (hl1 : 1 ≤ ps.length) (hl2 : ps.length ≤ 32) (h0 : 0 ≤ h) (h1 : h < heightI ps) :
    Calls Try.prog 86 #[.pointer (some ⟨g, 0, none⟩), .int .i64 h] w (RetS (.tuple #[.int .i64 (atK ps h : Nat), .int .i64 (h - heightI (ps.take (atK ps h)))]) w) := by
  have hbd := height_bd hal
  have hbn : heightI ps ≤ 9600000 := by have := hbd ps.length; rw [List.take_length] at this; omega
  have HB := Lib.hid hbd; clear hbd
  have hend := fun a => atK_end (h := h) hl1 a h1
  have HEND := Lib.hid hend; clear hend
  have heq := fun k hk ha h1 => atK_eq (rs := ps) (h := h) (k := k) hk ha h1
  have HEQ := Lib.hid heq; clear heq
  have hh : h ≤ 9600000 := by omega
  clear h1 hal hbn
  generalize hn : ps.length = n at *
  have HN := Lib.hid hn; clear hn
  obtain ⟨hn, ao, cap, b, off, rfl, hao, hcell⟩ := hr.open
  clear hr
  go_enter Try.func86, Try.ntmps86
  go_wp2_with fail
  go_loop [6, 1] (fun i s => ∃ (k : Nat), k ≤ n ∧ i = .int .i64 k ∧ s = .int .i64 (h - heightI (ps.take k)) ∧ (List.range k).all (fun j => decide (heightI (ps.take (j + 1)) ≤ h)) = true) (fun i _ => n - (intOf i).toNat)
  case atStart => exact ⟨0, Nat.zero_le _, rfl, by simp [heightI], rfl⟩
  case round =>
    obtain ⟨k, hk, rfl, rfl, hx⟩ := hrel
    have HX := Lib.hid hx; clear hx
    by_cases hlt : k < n
    · have hltp : k < ps.length := by rw [HN.out]; exact hlt
      have hb1 := HB.out k
      have hb2 := HB.out (k + 1)
      have hix := ix (P := Try.prog) (T := 29) (cap := cap) Try.underlying29 cells_Ring has_Ring hao hlt k rfl
      have hc3 : w.cell? ⟨b, off + k * 3 + 2, none⟩ = some (.int .i64 ps[k].2.2) := hcell _ (Below.refl _ _) _ _ (by omega) (trips_at hltp).2.2
      have hs := heightI_snoc ps hltp
      have hp : heightI (ps.take (k + 1)) ≤ h → (List.range (k + 1)).all (fun j => decide (heightI (ps.take (j + 1)) ≤ h)) = true := fun hle => range_step HX.out (by simpa using hle)
      have hq : h < heightI (ps.take (k + 1)) → atK ps h = k := fun hl => HEQ.out k hlt HX.out hl
      rw [hs] at hb2 hp hq
      have HS := Lib.hid hs; clear hs
      have HP := Lib.hid hp; clear hp
      have HQ := Lib.hid hq; clear hq
      clear hcell
      generalize ps[k].2.2 = z at *
      generalize hsv : heightI (ps.take k) = s at *
      have HSV := Lib.hid hsv; clear hsv
      by_cases t1 : h - s < z
      · have ha := HQ.out (by omega)
        rw [ha, HSV.out]
        go_wp2
        go_returns
        exact RetS.mk rfl
      · go_wp2
        go_round
        case rel => exact ⟨k + 1, by omega, by go_num, by rw [HS.out]; exact int_eq (by omega), HP.out (by omega)⟩
        case measure => simp [intOf]; omega
    · obtain rfl : k = n := by omega
      exact (HEND.out HX.out).elim

set_option maxHeartbeats 1600000 in
theorem ringAt_c (nm : ByteArray) (sv : Value) (ps : List (Int × Int × Int)) (h : Int) (w : World) (hr : Rd w sv ps.length (trips ps)) (hal : ps.all ringT = true) (hl1 : 1 ≤ ps.length) (hl2 : ps.length ≤ 32) (h0 : 0 ≤ h) (h1 : h < heightI ps) :
    Calls Try.prog 89 #[.agg #[.string nm, sv], .int .i64 h] w (RetB (.tuple #[.int .i64 (atK ps h : Nat), .int .i64 (heightI (ps.take (atK ps h)))]) w) := by
  have hbd := height_bd hal
  have hbn : heightI ps ≤ 9600000 := by have := hbd ps.length; rw [List.take_length] at this; omega
  have HB := Lib.hid hbd; clear hbd
  have hend := fun a => atK_end (h := h) hl1 a h1
  have HEND := Lib.hid hend; clear hend
  have heq := fun k hk ha h1 => atK_eq (rs := ps) (h := h) (k := k) hk ha h1
  have HEQ := Lib.hid heq; clear heq
  have hh : h ≤ 9600000 := by omega
  clear h1 hal hbn
  generalize hn : ps.length = n at *
  have HN := Lib.hid hn; clear hn
  obtain ⟨hn, ao, cap, b, off, rfl, hao, hcell⟩ := hr.open
  clear hr
  go_enter Try.func89, Try.ntmps89
  go_wp2_with fail
  go_loopw [12, 6] (fun i s wr => ∃ (k : Nat), k ≤ n ∧ i = .int .i64 k ∧ s = .int .i64 (heightI (ps.take k)) ∧ (List.range k).all (fun j => decide (heightI (ps.take (j + 1)) ≤ h)) = true ∧ Below w.heap.size w wr) (fun i _ _ => n - (intOf i).toNat)
  case atStart => exact ⟨0, Nat.zero_le _, rfl, by simp [heightI], rfl, by go_grown⟩
  case round =>
    obtain ⟨k, hk, rfl, rfl, hx, hb⟩ := hrel
    have HX := Lib.hid hx; clear hx
    by_cases hlt : k < n
    · have hltp : k < ps.length := by rw [HN.out]; exact hlt
      have hb1 := HB.out k
      have hb2 := HB.out (k + 1)
      have hix := ix (P := Try.prog) (T := 29) (cap := cap) Try.underlying29 cells_Ring has_Ring hao hlt k rfl
      have hc1 : wr.cell? ⟨b, off + k * 3, none⟩ = some (.int .i64 ps[k].1) := hcell _ hb _ _ (by omega) (trips_at hltp).1
      have hc2 : wr.cell? ⟨b, off + k * 3 + 1, none⟩ = some (.int .i64 ps[k].2.1) := hcell _ hb _ _ (by omega) (trips_at hltp).2.1
      have hc3 : wr.cell? ⟨b, off + k * 3 + 2, none⟩ = some (.int .i64 ps[k].2.2) := hcell _ hb _ _ (by omega) (trips_at hltp).2.2
      have hs := heightI_snoc ps hltp
      have hp : heightI (ps.take (k + 1)) ≤ h → (List.range (k + 1)).all (fun j => decide (heightI (ps.take (j + 1)) ≤ h)) = true := fun hle => range_step HX.out (by simpa using hle)
      have hq : h < heightI (ps.take (k + 1)) → atK ps h = k := fun hl => HEQ.out k hlt HX.out hl
      rw [hs] at hb2 hp hq
      have HS := Lib.hid hs; clear hs
      have HP := Lib.hid hp; clear hp
      have HQ := Lib.hid hq; clear hq
      clear hcell
      generalize ps[k].1 = x at *
      generalize ps[k].2.1 = y at *
      generalize ps[k].2.2 = z at *
      generalize hsv : heightI (ps.take k) = s at *
      have HSV := Lib.hid hsv; clear hsv
      by_cases t1 : h < s + z
      · have ha := HQ.out t1
        rw [ha, HSV.out]
        go_wp2
        go_returns
        exact RetB.mk rfl (hb.alloc hb.size _)
      · go_wp2
        go_roundw
        case rel => exact ⟨k + 1, by omega, by go_num, by rw [HS.out], HP.out (by omega), hb.alloc hb.size _⟩
        case measure => simp [intOf]; omega
    · obtain rfl : k = n := by omega
      exact (HEND.out HX.out).elim

end Go.Proofs.Ytddkjcdnomoglaa
