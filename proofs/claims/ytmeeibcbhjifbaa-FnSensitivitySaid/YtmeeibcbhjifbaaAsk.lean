/- Cuts: whether they can be made. -/
import Derived.Test.YtmeeibcbhjifbaaGG
import Derived.Test.YtmeeibcbhjifbaaUB
namespace Go.Proofs.Ytmeeibcbhjifbaa
set_option linter.unusedVariables false
open Go.RowKit Go.Proofs.Bell Go.BigFrame

def overB (zs : List Int) (cs : List (Int × Int)) : Bool := cs.any (fun c => decide ((zs.length : Int) ≤ c.1))
def cutAsk (nm : ByteArray) (ps : List (Int × Int × Int)) (zs : List Int) (cs : List (Int × Int)) : Int := if vzB nm ps zs && cutsB cs then (if overB zs cs then 2 else if (sumsOf cs).all (fun z => decide (z ≤ 20)) then 0 else 5) else 1
theorem over_yes {zs : List Int} {cs : List (Int × Int)} {k : Nat} (hk : k < cs.length) (h : (zs.length : Int) ≤ cs[k].1) : overB zs cs = true := by
  unfold overB
  exact List.any_eq_true.2 ⟨cs[k], List.getElem_mem hk, by simpa using h⟩
theorem over_no {zs : List Int} {cs : List (Int × Int)} (h : ∀ j (hj : j < cs.length), ¬ (zs.length : Int) ≤ cs[j].1) : overB zs cs = false := by
  unfold overB
  rw [List.any_eq_false]
  intro x hx
  obtain ⟨j, hj, rfl⟩ := List.mem_iff_getElem.1 hx
  simpa using h j hj

set_option maxRecDepth 100000 in
set_option maxHeartbeats 1600000 in
theorem l09Ask_c (g : Nat) (nm : ByteArray) (sv : Value) (ps : List (Int × Int × Int)) (v : Value) (zs : List Int) (u : Value) (cs : List (Int × Int)) (w : World) (hg : g < w.heap.size) (hnm : nm.size ≤ maxLen) (c0 : w.cell? ⟨g, 0, none⟩ = some (.string nm)) (c1 : w.cell? ⟨g, 1, none⟩ = some sv) (hr : Rd w sv ps.length (trips ps)) (h : Rd w v zs.length (ints zs)) (h2 : Rd w u cs.length (pairs cs)) :
    Calls Try.prog 131 #[.pointer (some ⟨g, 0, none⟩), v, u] w (RetB (.int .i64 (cutAsk nm ps zs cs)) w) := by
  have hvz := fun w' (hb : Below w.heap.size w w') => l09Zones_c g nm sv ps v zs w' (by have := hb.size; omega) hnm (below_cell hb c0) (below_cell hb c1) (hr.later hb) (h.later hb)
  have hcu := fun w' (hb : Below w.heap.size w w') => l09Cuts_c u cs w' (h2.later hb)
  cases t1 : vzB nm ps zs <;> rw [t1] at hvz
  · have he : cutAsk nm ps zs cs = 1 := by simp [cutAsk, t1]
    rw [he]
    have HVZ := Lib.hid hvz; clear hvz
    clear he hr h h2 hcu c0 c1
    go_enter Try.func131, Try.ntmps131
    have b0 : Below w.heap.size w w := Below.refl _ _
    have z0 : w.heap.size ≤ w.heap.size := Nat.le_refl _
    go_wp2_with fail
    refine (HVZ.out _ b0).mono ?_
    rintro _ w1 ⟨rfl, d1⟩
    have r1 := Dr.below d1; clear d1
    have s1 := r1
    have b1 := b0.trans (s1.mono z0)
    have z1 := b1.size
    have y1 := s1.size
    clear r1
    go_wp2
    go_returns
    exact RetB.mk (rfl) b1
  · cases t2 : cutsB cs <;> rw [t2] at hcu
    · have he : cutAsk nm ps zs cs = 1 := by simp [cutAsk, t1, t2]
      rw [he]
      have HVZ := Lib.hid hvz; clear hvz
      have HCU := Lib.hid hcu; clear hcu
      clear he hr h h2 c0 c1
      go_enter Try.func131, Try.ntmps131
      have b0 : Below w.heap.size w w := Below.refl _ _
      have z0 : w.heap.size ≤ w.heap.size := Nat.le_refl _
      go_wp2_with fail
      refine (HVZ.out _ b0).mono ?_
      rintro _ w1 ⟨rfl, d1⟩
      have r1 := Dr.below d1; clear d1
      have s1 := r1
      have b1 := b0.trans (s1.mono z0)
      have z1 := b1.size
      have y1 := s1.size
      clear r1
      go_wp2_with fail
      refine (HCU.out _ b1).mono ?_
      rintro _ _ ⟨rfl, rfl⟩
      go_wp2
      go_returns
      exact RetB.mk (rfl) b1
    · have hsum := fun w' (hb : Below w.heap.size w w') => l09Sums_c u cs w' (h2.later hb) t2
      have hfit := fun w' x (hx : Rd w' x (sumsOf cs).length (ints (sumsOf cs))) => l09Fits_c x (sumsOf cs) w' hx
      have hask : overB zs cs = false → cutAsk nm ps zs cs = (if (sumsOf cs).all (fun z => decide (z ≤ 20)) then 0 else 5) := fun h => by simp [cutAsk, t1, t2, h]
      have hask2 : overB zs cs = true → cutAsk nm ps zs cs = 2 := fun h => by simp [cutAsk, t1, t2, h]
      obtain ⟨hnq, aoq, capq, bq, offq, rfl, haoq, hcellq⟩ := h.open
      generalize hn : cs.length = n at *
      have HN := Lib.hid hn; clear hn
      obtain ⟨hn2, ao, cap, bb, off, rfl, hao, hcell⟩ := h2.open
      have HVZ := Lib.hid hvz; clear hvz
      have HCU := Lib.hid hcu; clear hcu
      have HSUM := Lib.hid hsum; clear hsum
      have HFIT := Lib.hid hfit; clear hfit
      have HASK := Lib.hid hask; clear hask
      have HASK2 := Lib.hid hask2; clear hask2
      have hov : ∀ k (hk : k < cs.length), (zs.length : Int) ≤ cs[k].1 → overB zs cs = true := fun k hk h => over_yes hk h
      have hno : (∀ j (hj : j < cs.length), ¬ (zs.length : Int) ≤ cs[j].1) → overB zs cs = false := over_no
      have HOV := Lib.hid hov; clear hov
      have HNO := Lib.hid hno; clear hno
      clear hr h h2 c0 c1 hcellq haoq t1 t2
      generalize zs.length = nz at *
      generalize sumsOf cs = sums at *
      go_enter Try.func131, Try.ntmps131
      have b0 : Below w.heap.size w w := Below.refl _ _
      have z0 : w.heap.size ≤ w.heap.size := Nat.le_refl _
      go_wp2_with fail
      refine (HVZ.out _ b0).mono ?_
      rintro _ w1 ⟨rfl, d1⟩
      have r1 := Dr.below d1; clear d1
      have s1 := r1
      have b1 := b0.trans (s1.mono z0)
      have z1 := b1.size
      have y1 := s1.size
      clear r1
      go_wp2_with fail
      refine (HCU.out _ b1).mono ?_
      rintro _ _ ⟨rfl, rfl⟩
      go_wp2_with fail
      go_loopw [7] (fun i wr => ∃ (k : Nat), k ≤ n ∧ i = .int .i64 k ∧ (∀ j (hj : j < cs.length), j < k → ¬ (nz : Int) ≤ cs[j].1) ∧ Below w.heap.size w wr) (fun i _ => n - (intOf i).toNat)
      case atStart => exact ⟨0, Nat.zero_le _, rfl, fun j _ h => absurd h (Nat.not_lt_zero _), b1⟩
      case round =>
        obtain ⟨k, hk, rfl, hx, br0⟩ := hrel
        have zr0 := br0.size
        have HX := Lib.hid hx; clear hx
        by_cases hlt : k < n
        · have hltp : k < cs.length := by rw [HN.out]; exact hlt
          have hix := ix (P := Try.prog) (T := 64) (cap := cap) Try.underlying64 cells_Cut has_Cut hao hlt k rfl
          have hc1 : wr.cell? ⟨bb, off + k * 2, none⟩ = some (.int .i64 cs[k].1) := hcell _ br0 _ _ (by omega) (pairs_at hltp).1
          have ha := fun h => HASK2.out (HOV.out k hltp h)
          have hb2 : ¬ (nz : Int) ≤ cs[k].1 → ∀ j (hj : j < cs.length), j < k + 1 → ¬ (nz : Int) ≤ cs[j].1 := fun h j hj hjk => by
            rcases Nat.lt_or_ge j k with h1 | h1
            · exact HX.out j hj h1
            · obtain rfl : j = k := by omega
              exact h
          have HA := Lib.hid ha; clear ha
          have HB2 := Lib.hid hb2; clear hb2
          clear hcell
          generalize cs[k].1 = z at *
          by_cases t : (nz : Int) ≤ z
          · have e := HA.out t
            go_wp2
            go_returns
            exact RetB.mk (int_eq (by first | rfl | rw [e])) br0
          · go_wp2
            go_roundw
            case rel => exact ⟨k + 1, by omega, by go_num, HB2.out t, (by first | exact br0 | exact below_drewN br0 _ | go_grown)⟩
            case measure => simp [intOf]; omega
        · obtain rfl : k = n := by omega
          have e := HASK.out (HNO.out (fun j hj => by have := HX.out j hj (by rw [← HN.out]; exact hj); omega))
          have EE := Lib.hid e; clear e
          clear hcell
          go_wp2_with fail
          refine (HSUM.out _ br0).mono ?_
          rintro _ wr1 ⟨xr1, rfl, nr1, rr1⟩
          have sr1 := rr1
          have br1 := br0.trans (sr1.mono zr0)
          have zr1 := br1.size
          have yr1 := sr1.size
          clear rr1
          go_wp2_with fail
          refine (HFIT.out _ _ (Rd.of_own nr1)).mono ?_
          rintro _ _ ⟨rfl, rfl⟩
          cases t : sums.all (fun z => decide (z ≤ 20))
          · go_wp2
            go_returns
            exact RetB.mk (int_eq (by rw [EE.out, t]; rfl)) br1
          · go_wp2
            go_returns
            exact RetB.mk (int_eq (by rw [EE.out, t]; rfl)) br1

end Go.Proofs.Ytmeeibcbhjifbaa
