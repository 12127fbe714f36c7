/- Zones of a profile. -/
import Derived.Test.YtddkjcdnomoglaaZones2
import Derived.Test.YtddkjcdnomoglaaValid2
import Derived.Test.YtddkjcdnomoglaaBest
namespace Go.Proofs.Ytddkjcdnomoglaa
set_option linter.unusedVariables false
open Go.RowKit Go.Proofs.Bell Go.BigFrame

def vzB (nm : ByteArray) (rs : List (Int × Int × Int)) (zs : List Int) : Bool := profB nm rs && zonesB zs ((rs.length : Int) - 1)
theorem zones_eq (zs : List Int) (hi : Int) : zonesB zs hi = (decide (1 ≤ zs.length) && decide (zs.length ≤ 8) && (zs.getD 0 0 == 0) && risesB zs 0 hi) := by
  unfold zonesB inB
  congr 2
  rw [Bool.eq_iff_iff]
  simp
  omega
theorem sizeR_c (v : Value) (n : Nat) (xs : List Value) (w : World) (h : Rd w v n xs) : Calls Try.prog 93 #[v] w (RetS (.int .i64 n) w) := by
  obtain ⟨hn, ao, cap, b, off, rfl, hao, hcell⟩ := h.open
  clear hcell h
  go_enter Try.func93, Try.ntmps93
  go_wp2
  go_returns
  exact RetS.mk rfl

set_option maxHeartbeats 1600000 in
theorem l09Zones_c (g : Nat) (nm : ByteArray) (sv : Value) (ps : List (Int × Int × Int)) (v : Value) (zs : List Int) (w : World) (hg : g < w.heap.size) (hnm : nm.size ≤ maxLen) (c0 : w.cell? ⟨g, 0, none⟩ = some (.string nm)) (c1 : w.cell? ⟨g, 1, none⟩ = some sv) (hr : Rd w sv ps.length (trips ps)) (h : Rd w v zs.length (ints zs)) :
    Calls Try.prog 60 #[.pointer (some ⟨g, 0, none⟩), v] w (RetD (.bool (vzB nm ps zs)) w) := by
  have hok := l05Ok_c g nm sv ps w hg hnm c0 c1 hr
  cases t0 : profB nm ps <;> rw [t0] at hok
  · have HOK := Lib.hid hok; clear hok
    have he : vzB nm ps zs = false := by simp [vzB, t0]
    rw [he]
    clear he hr c0 c1
    obtain ⟨hn, ao, cap, b, off, rfl, hao, hcell⟩ := h.open
    clear h hcell hao
    go_enter Try.func60, Try.ntmps60
    go_wp2_with fail
    refine HOK.out.mono ?_
    rintro _ w1 ⟨rfl, hd⟩
    go_wp2
    go_returns
    exact RetD.mk rfl hd
  · have he : vzB nm ps zs = zonesB zs ((ps.length : Int) - 1) := by simp [vzB, t0]
    rw [he, zones_eq]
    clear he
    have HOK := Lib.hid hok; clear hok
    obtain ⟨hl1, hl2, _, _⟩ := profB_t t0
    have hri := fun w' (hb : Below w.heap.size w w') => l00Rises_c v zs 0 ((ps.length : Int) - 1) w' (h.later hb)
    obtain ⟨_, ao2, cap2, b2, off2, rfl, _, _⟩ := hr.open
    clear hr c0
    generalize ps.length = m at *
    have HRI := Lib.hid hri; clear hri
    generalize hn : zs.length = n at *
    have HN := Lib.hid hn; clear hn
    obtain ⟨hn, ao, cap, b, off, rfl, hao, hcell⟩ := h.open
    clear h
    by_cases h1 : 1 ≤ n
    · by_cases h2 : n ≤ 8
      · have hk0 : 0 < n := by omega
        have hltp : 0 < zs.length := by rw [HN.out]; exact hk0
        have hix := ix (P := Try.prog) (T := 25) (cap := cap) Try.underlying25 cells_int64 has_int64 hao hk0 0 rfl
        rw [Nat.zero_mul, Nat.add_zero] at hix
        have hz0 : zs.getD 0 0 = zs[0] := getD_eq hltp
        rw [hz0]
        clear hz0
        have hc : ∀ w', Below w.heap.size w w' → w'.cell? ⟨b, off, none⟩ = some (.int .i64 zs[0]) := fun w' hb => by
          have := hcell _ hb _ _ hk0 (intsAt hltp)
          rwa [Nat.add_zero] at this
        have HC := Lib.hid hc; clear hc
        clear hcell hao
        generalize zs[0] = z at *
        by_cases h3 : z = 0
        · cases h4 : risesB zs 0 ((m : Int) - 1) <;> rw [h4] at HRI <;>
          · go_enter Try.func60, Try.ntmps60
            go_wp2_with fail
            refine HOK.out.mono ?_
            rintro _ w1 ⟨rfl, hd⟩
            have hb := Dr.below hd
            have k1 := below_cell hb c1
            have hc1 := HC.out _ hb
            go_wp2_with (go_at_call 124; refine (HRI.out _ hb).mono ?_; rintro _ w2 ⟨rfl, hd2⟩)
            go_returns
            exact RetD.mk (by simp [h1, h2, h3]) (Dr.trans hd hd2)
        · go_enter Try.func60, Try.ntmps60
          go_wp2_with fail
          refine HOK.out.mono ?_
          rintro _ w1 ⟨rfl, hd⟩
          have hc1 := HC.out _ (Dr.below hd)
          go_wp2
          go_returns
          exact RetD.mk (by simp [h3]) hd
      · clear hcell
        go_enter Try.func60, Try.ntmps60
        go_wp2_with fail
        refine HOK.out.mono ?_
        rintro _ w1 ⟨rfl, hd⟩
        go_wp2
        go_returns
        exact RetD.mk (by simp [h2]) hd
    · clear hcell
      go_enter Try.func60, Try.ntmps60
      go_wp2_with fail
      refine HOK.out.mono ?_
      rintro _ w1 ⟨rfl, hd⟩
      go_wp2
      go_returns
      exact RetD.mk (by simp [h1]) hd

set_option maxHeartbeats 800000 in
theorem ValidZones_c (nm : ByteArray) (sv : Value) (ps : List (Int × Int × Int)) (v : Value) (zs : List Int) (w : World) (hnm : nm.size ≤ maxLen) (hr : Rd w sv ps.length (trips ps)) (h : Rd w v zs.length (ints zs)) :
    Calls Try.prog 64 #[.agg #[.string nm, sv], v] w (RetB (.bool (vzB nm ps zs)) w) := by
  have hz := fun w' (hb : Below w.heap.size w w') => areZones_c v zs ps.length w' (h.later hb)
  have hsz := fun w' (hb : Below w.heap.size w w') => sizeR_c sv ps.length (trips ps) w' (hr.later hb)
  have HZ := Lib.hid hz; clear hz
  have HSZ := Lib.hid hsz; clear hsz
  have hok := fun w' (hb : Below w.heap.size w w') => ValidProfile_c nm sv ps w' hnm (hr.later hb)
  obtain ⟨hn, ao, cap, b, off, rfl, hao, hcell⟩ := h.open
  obtain ⟨_, ao2, cap2, b2, off2, rfl, _, _⟩ := hr.open
  clear h hcell hao hr
  cases t0 : profB nm ps <;> rw [t0] at hok
  · have HOK := Lib.hid hok; clear hok
    go_enter Try.func64, Try.ntmps64
    have b0 : Below w.heap.size w w := Below.refl _ _
    have z0 : w.heap.size ≤ w.heap.size := Nat.le_refl _
    go_wp2_with fail
    refine (HOK.out _ (by go_grown)).mono ?_
    rintro _ w1 ⟨rfl, r1⟩
    have s1 : Below w.heap.size w w1 := Below.trans (by go_grown) (r1.mono (by simp; try omega))
    have b1 := b0.trans (s1.mono z0)
    have z1 := b1.size
    have y1 := s1.size
    have c0_0_1 := below_cell r1 (p := ⟨w.heap.size, 0, none⟩) (v := .string nm) (by simp [go_sem])
    have c0_1_1 := below_cell r1 (p := ⟨w.heap.size, 1, none⟩) (v := .slice ao2 ps.length cap2) (by simp [go_sem])
    clear r1
    go_wp2
    go_returns
    exact RetB.mk (bool_eq (by simp [vzB, t0])) b1
  · have he : vzB nm ps zs = zonesB zs ((ps.length : Int) - 1) := by simp [vzB, t0]
    rw [he]
    have HOK := Lib.hid hok; clear hok
    clear he
    generalize ps.length = m at *
    go_enter Try.func64, Try.ntmps64
    have b0 : Below w.heap.size w w := Below.refl _ _
    have z0 : w.heap.size ≤ w.heap.size := Nat.le_refl _
    go_wp2_with fail
    refine (HOK.out _ (by go_grown)).mono ?_
    rintro _ w1 ⟨rfl, r1⟩
    have s1 : Below w.heap.size w w1 := Below.trans (by go_grown) (r1.mono (by simp; try omega))
    have b1 := b0.trans (s1.mono z0)
    have z1 := b1.size
    have y1 := s1.size
    have c0_0_1 := below_cell r1 (p := ⟨w.heap.size, 0, none⟩) (v := .string nm) (by simp [go_sem])
    have c0_1_1 := below_cell r1 (p := ⟨w.heap.size, 1, none⟩) (v := .slice ao2 m cap2) (by simp [go_sem])
    clear r1
    go_wp2_with (first | (go_at_call 93; refine (HSZ.out _ b1).mono ?_; rintro _ _ ⟨rfl, rfl⟩) | (go_at_call 125; refine (HZ.out _ b1).mono ?_; rintro _ _ ⟨rfl, rfl⟩))
    go_wp2
    go_returns
    exact RetB.mk (rfl) b1

end Go.Proofs.Ytddkjcdnomoglaa
