/- Several texts of the proofs in one: Ask, Apply, Apply2, Chips, Sens, ModL. -/
import Derived.Test.YtgdadbmhdljcdaaGreatDoorGF
import Derived.Test.YtgdadbmhdljcdaaGreatDoorGG
import Derived.Test.YtgdadbmhdljcdaaGreatDoorUB
import Derived.Test.YtgdadbmhdljcdaaGreatDoorVD
import Derived.Test.YtgdadbmhdljcdaaGreatDoorWC
import Derived.Test.YtgdadbmhdljcdaaGreatDoorWE
import Derived.Test.YtgdadbmhdljcdaaGreatDoorWH
/- Cuts: whether they can be made. -/
namespace Go.Proofs.YtgdadbmhdljcdaaGreatDoor
set_option linter.unusedVariables false
open Go.RowKit Go.Proofs.Bell Go.BigFrame

def overB (zs : List Int) (cs : List (Int × Int)) : Bool := cs.any (fun c => decide ((zs.length : Int) ≤ c.1))
def cutAsk (nm : ByteArray) (ps : List (Int × Int × Int)) (zs : List Int) (cs : List (Int × Int)) : Int := if vzB nm ps zs && cutsB cs then (if overB zs cs then 2 else if (sumsOf cs).all (fun z => decide (z ≤ 20)) then 0 else 5) else 1
theorem over_yes {zs : List Int} {cs : List (Int × Int)} {k : Nat} (hk : k < cs.length) (h : (zs.length : Int) ≤ cs[k].1) : overB zs cs = true := by
  unfold overB
  exact List.any_eq_true.2 ⟨cs[k], List.getElem_mem hk, by simpa using h⟩
theorem over_no {zs : List Int} {cs : List (Int × Int)} (h : ∀ j (hj : j < cs.length), ¬ (zs.length : Int) ≤ cs[j].1) : overB zs cs = false := by
  unfold overB
  rw [List.any_eq_false]
  intro x hx
  obtain ⟨j, hj, rfl⟩ := List.mem_iff_getElem.1 hx
  simpa using h j hj

end Go.Proofs.YtgdadbmhdljcdaaGreatDoor

/- Cuts made: the reference. -/
namespace Go.Proofs.YtgdadbmhdljcdaaGreatDoor
set_option linter.unusedVariables false
open Go.RowKit Go.Proofs.Bell Go.BigFrame

def applyI (nm : ByteArray) (ps : List (Int × Int × Int)) (zs : List Int) (cs : List (Int × Int)) : ByteArray × List (Int × Int × Int) × Int := if cutAsk nm ps zs cs = 0 then doneR nm (mapK (turnT zs (sumsOf cs)) ps ps.length) else (⟨#[]⟩, [], cutAsk nm ps zs cs)
theorem applyI_len (nm : ByteArray) (ps : List (Int × Int × Int)) (zs : List Int) (cs : List (Int × Int)) : (applyI nm ps zs cs).2.1.length ≤ 32 := by
  unfold applyI
  split
  · exact doneR_len _ _
  · simp
theorem cutAsk_ok {nm : ByteArray} {ps : List (Int × Int × Int)} {zs : List Int} {cs : List (Int × Int)} (h : cutAsk nm ps zs cs = 0) : vzB nm ps zs = true ∧ cutsB cs = true ∧ overB zs cs = false ∧ (sumsOf cs).all (fun z => decide (z ≤ 20)) = true := by
  unfold cutAsk at h
  cases h1 : vzB nm ps zs <;> cases h2 : cutsB cs <;> cases h3 : overB zs cs <;> cases h4 : (sumsOf cs).all (fun z => decide (z ≤ 20)) <;> simp [h1, h2, h3, h4] at h ⊢
theorem sums_bd {cs : List (Int × Int)} (h : cutsB cs = true) (k : Nat) : 0 ≤ (sumsOf cs).getD k 0 ∧ (sumsOf cs).getD k 0 ≤ 1000000000000 := by
  rcases Nat.lt_or_ge k 8 with hk | hk
  · have h1 := sumsOf_at cs hk
    rw [List.getD, h1]
    simp only [cutsB, Bool.and_eq_true, decide_eq_true_eq] at h
    have := zoneSum_bd h.1 k cs.length
    rw [List.take_of_length_le (Nat.le_refl _)] at this
    simp only [Option.getD_some]
    omega
  · rw [List.getD, List.getElem?_eq_none (by rw [sumsOf_len]; exact hk)]
    simp

end Go.Proofs.YtgdadbmhdljcdaaGreatDoor

/- Cuts made: the program. -/
namespace Go.Proofs.YtgdadbmhdljcdaaGreatDoor
set_option linter.unusedVariables false
open Go.RowKit Go.Proofs.Bell Go.BigFrame

set_option maxHeartbeats 800000 in
theorem ApplyCuts1_c (c : Int × Int) (v : Value) (zs : List Int) (a : Nat) (w : World) (hc : w.cell? ⟨a, 0, none⟩ = some v) (h : Rd w v zs.length (ints zs)) :
    Calls Tryz.prog 98 #[.agg #[.int .i64 c.1, .int .i64 c.2], .pointer (some ⟨a, 0, none⟩)] w (RetB (.bool (decide ((zs.length : Int) ≤ c.1))) w) := by
  have ha := World.block_lt_of_cell? w _ hc
  simp only at ha
  have hs := fun w' (hb : Below w.heap.size w w') => size64_c v zs.length (ints zs) w' (h.later hb)
  obtain ⟨hnq, aoq, capq, bq, offq, rfl, haoq, hcellq⟩ := h.open
  clear hcellq haoq h
  obtain ⟨c0, c1⟩ := c
  generalize zs.length = n at *
  have ac := fun o => alloc_cell o hc
  have HS := Lib.hid hs; clear hs
  go_enter Tryz.func98, Tryz.ntmps98
  go_wp2_with fail
  go_quiet ((go_at_call 84; exact quietS (HS.out _ (below_drewN (by go_grown) _))))
  go_wp2
  go_returns
  exact RetB.mk (bool_eq (by simp)) (below_drewN (by go_grown) _)

set_option maxRecDepth 100000 in
set_option maxHeartbeats 1600000 in
theorem implApplyCuts_c (nm : ByteArray) (sv : Value) (ps : List (Int × Int × Int)) (v : Value) (zs : List Int) (u : Value) (cs : List (Int × Int)) (w : World) (hnm : nm.size ≤ maxLen) (hr : Rd w sv ps.length (trips ps)) (h : Rd w v zs.length (ints zs)) (h2 : Rd w u cs.length (pairs cs)) :
    Calls Tryz.prog 39 #[.agg #[.string nm, sv], v, u] w (RetP2 (applyI nm ps zs cs).1 (applyI nm ps zs cs).2.1 (.int .i64 (applyI nm ps zs cs).2.2) w) := by
  have hv : ∃ ao n cap, v = .slice ao n cap := by obtain ⟨hnq, aoq, capq, bq, offq, hv, haoq, hcellq⟩ := h.open; exact ⟨_, _, _, hv⟩
  have hvz := fun w' (hb : Below w.heap.size w w') => ValidZones_c nm sv ps v zs w' hnm (hr.later hb) (h.later hb)
  have hcu := fun w' (hb : Below w.heap.size w w') => ValidCuts_c u cs w' (h2.later hb)
  cases t1 : vzB nm ps zs <;> rw [t1] at hvz
  · have he : applyI nm ps zs cs = (⟨#[]⟩, [], 1) := by simp [applyI, cutAsk, t1]
    rw [he]
    have HVZ := Lib.hid hvz; clear hvz
    clear he hr h h2 hcu
    obtain ⟨aoq, nq, capq, rfl⟩ := hv
    go_enter Tryz.func39, Tryz.ntmps39
    have b0 : Below w.heap.size w w := Below.refl _ _
    have z0 : w.heap.size ≤ w.heap.size := Nat.le_refl _
    go_wp2_with fail
    refine (HVZ.out _ (by go_grown)).mono ?_
    rintro _ w1 ⟨rfl, r1⟩
    have s1 : Below w.heap.size w w1 := Below.trans (by go_grown) (r1.mono (by simp; try omega))
    have b1 := b0.trans (s1.mono z0)
    have z1 := b1.size
    have y1 := s1.size
    have v1 : w.heap.size + 3 ≤ w1.heap.size := by have := r1.size; simp only [World.size_alloc] at this; omega
    have c0_0_1 := below_cell r1 (p := ⟨w.heap.size, 0, none⟩) (v := .string nm) (by simp [go_sem])
    have c0_1_1 := below_cell r1 (p := ⟨w.heap.size, 1, none⟩) (v := sv) (by simp [go_sem])
    have c1_0_1 := below_cell r1 (p := ⟨w.heap.size + 1, 0, none⟩) (v := .slice aoq nq capq) (by simp [go_sem])
    have c2_0_1 := below_cell r1 (p := ⟨w.heap.size + 1 + 1, 0, none⟩) (v := .string ⟨#[]⟩) (by simp [go_sem])
    have c2_1_1 := below_cell r1 (p := ⟨w.heap.size + 1 + 1, 1, none⟩) (v := .slice none 0 0) (by simp [go_sem])
    have f0_1 : ∀ j, w1.frozen? ⟨w.heap.size, j, none⟩ = false := fun j => (r1.frozen (p := ⟨w.heap.size, j, none⟩) (by simp [go_sem])).trans (by simp [go_sem])
    have f1_1 : ∀ j, w1.frozen? ⟨w.heap.size + 1, j, none⟩ = false := fun j => (r1.frozen (p := ⟨w.heap.size + 1, j, none⟩) (by simp [go_sem])).trans (by simp [go_sem])
    have f2_1 : ∀ j, w1.frozen? ⟨w.heap.size + 1 + 1, j, none⟩ = false := fun j => (r1.frozen (p := ⟨w.heap.size + 1 + 1, j, none⟩) (by simp [go_sem])).trans (by simp [go_sem])
    clear r1
    go_wp2
    refine bodyPost_ret (v := .tuple #[.agg #[.string ⟨#[]⟩, .slice none 0 0], .int .i64 1]) (by simp [results, Tryz.results39, go_sem, c2_0_1, c2_1_1]) rfl ?_
    exact RetP2.nil (Below.setCell (Below.setCell b1 (show w.heap.size ≤ w.heap.size + 1 + 1 by omega) _) (show w.heap.size ≤ w.heap.size + 1 + 1 by omega) _)
  · cases t2 : cutsB cs <;> rw [t2] at hcu
    · have he : applyI nm ps zs cs = (⟨#[]⟩, [], 1) := by simp [applyI, cutAsk, t1, t2]
      rw [he]
      have HVZ := Lib.hid hvz; clear hvz
      have HCU := Lib.hid hcu; clear hcu
      clear he hr h h2
      obtain ⟨aoq, nq, capq, rfl⟩ := hv
      go_enter Tryz.func39, Tryz.ntmps39
      have b0 : Below w.heap.size w w := Below.refl _ _
      have z0 : w.heap.size ≤ w.heap.size := Nat.le_refl _
      go_wp2_with fail
      refine (HVZ.out _ (by go_grown)).mono ?_
      rintro _ w1 ⟨rfl, r1⟩
      have s1 : Below w.heap.size w w1 := Below.trans (by go_grown) (r1.mono (by simp; try omega))
      have b1 := b0.trans (s1.mono z0)
      have z1 := b1.size
      have y1 := s1.size
      have v1 : w.heap.size + 3 ≤ w1.heap.size := by have := r1.size; simp only [World.size_alloc] at this; omega
      have c0_0_1 := below_cell r1 (p := ⟨w.heap.size, 0, none⟩) (v := .string nm) (by simp [go_sem])
      have c0_1_1 := below_cell r1 (p := ⟨w.heap.size, 1, none⟩) (v := sv) (by simp [go_sem])
      have c1_0_1 := below_cell r1 (p := ⟨w.heap.size + 1, 0, none⟩) (v := .slice aoq nq capq) (by simp [go_sem])
      have c2_0_1 := below_cell r1 (p := ⟨w.heap.size + 1 + 1, 0, none⟩) (v := .string ⟨#[]⟩) (by simp [go_sem])
      have c2_1_1 := below_cell r1 (p := ⟨w.heap.size + 1 + 1, 1, none⟩) (v := .slice none 0 0) (by simp [go_sem])
      have f0_1 : ∀ j, w1.frozen? ⟨w.heap.size, j, none⟩ = false := fun j => (r1.frozen (p := ⟨w.heap.size, j, none⟩) (by simp [go_sem])).trans (by simp [go_sem])
      have f1_1 : ∀ j, w1.frozen? ⟨w.heap.size + 1, j, none⟩ = false := fun j => (r1.frozen (p := ⟨w.heap.size + 1, j, none⟩) (by simp [go_sem])).trans (by simp [go_sem])
      have f2_1 : ∀ j, w1.frozen? ⟨w.heap.size + 1 + 1, j, none⟩ = false := fun j => (r1.frozen (p := ⟨w.heap.size + 1 + 1, j, none⟩) (by simp [go_sem])).trans (by simp [go_sem])
      clear r1
      go_wp2_with fail
      refine (HCU.out _ b1).mono ?_
      rintro _ w2 ⟨rfl, r2⟩
      have s2 := r2
      have b2 := b1.trans (s2.mono z1)
      have z2 := b2.size
      have y2 := s2.size
      have k0_2 := c0_0_1
      have c0_0_2 := below_cell s2 c0_0_1; clear c0_0_1
      have c0_1_2 := below_cell s2 c0_1_1; clear c0_1_1
      have k1_2 := c1_0_1
      have c1_0_2 := below_cell s2 c1_0_1; clear c1_0_1
      have k2_2 := c2_0_1
      have c2_0_2 := below_cell s2 c2_0_1; clear c2_0_1
      have c2_1_2 := below_cell s2 c2_1_1; clear c2_1_1
      have f0_2 : ∀ j, w2.frozen? ⟨w.heap.size, j, none⟩ = false := fun j => (s2.frozen (p := ⟨w.heap.size, j, none⟩) (show w.heap.size < _ from World.block_lt_of_cell? _ ⟨w.heap.size, 0, none⟩ k0_2)).trans (f0_1 j); clear f0_1
      have f1_2 : ∀ j, w2.frozen? ⟨w.heap.size + 1, j, none⟩ = false := fun j => (s2.frozen (p := ⟨w.heap.size + 1, j, none⟩) (show w.heap.size + 1 < _ from World.block_lt_of_cell? _ ⟨w.heap.size + 1, 0, none⟩ k1_2)).trans (f1_1 j); clear f1_1
      have f2_2 : ∀ j, w2.frozen? ⟨w.heap.size + 1 + 1, j, none⟩ = false := fun j => (s2.frozen (p := ⟨w.heap.size + 1 + 1, j, none⟩) (show w.heap.size + 1 + 1 < _ from World.block_lt_of_cell? _ ⟨w.heap.size + 1 + 1, 0, none⟩ k2_2)).trans (f2_1 j); clear f2_1
      clear r2
      go_wp2
      refine bodyPost_ret (v := .tuple #[.agg #[.string ⟨#[]⟩, .slice none 0 0], .int .i64 1]) (by simp [results, Tryz.results39, go_sem, c2_0_2, c2_1_2]) rfl ?_
      exact RetP2.nil (Below.setCell (Below.setCell b2 (show w.heap.size ≤ w.heap.size + 1 + 1 by omega) _) (show w.heap.size ≤ w.heap.size + 1 + 1 by omega) _)
    · have hsum := fun w' (hb : Below w.heap.size w w') => stepsOf_c u cs w' (h2.later hb) t2
      have hov := fun w' a (hb : Below w.heap.size w w') (hc : w'.cell? ⟨a, 0, none⟩ = some v) => ContainsFuncCut_c 98 #[.pointer (some ⟨a, 0, none⟩)] (fun c => decide ((zs.length : Int) ≤ c.1)) u cs w' (h2.later hb) (enters Tryz.func98 (by kernel_rfl) rfl) (fun x _ w'' hb'' => ApplyCuts1_c x v zs a w'' (below_cell hb'' hc) ((h.later hb).later hb''))
      have hov' : ∀ w' a (hb : Below w.heap.size w w') (hc : w'.cell? ⟨a, 0, none⟩ = some v), Calls Tryz.prog 97 #[u, .func (.func 98) #[] #[.pointer (some ⟨a, 0, none⟩)]] w' (RetB (.bool (overB zs cs)) w') := hov
      clear hov
      cases t3 : overB zs cs <;> rw [t3] at hov'
      · have hmax := fun w' x (hx : Rd w' x (sumsOf cs).length (ints (sumsOf cs))) => Max_c x (sumsOf cs) w' hx (by rw [sumsOf_len]; decide)
        have hmle := maxI_le (zs := sumsOf cs) (c := 20) (by rw [sumsOf_len]; decide)
        cases t4 : (sumsOf cs).all (fun z => decide (z ≤ 20)) <;> rw [t4] at hmle
        · have he : applyI nm ps zs cs = (⟨#[]⟩, [], 5) := by simp [applyI, cutAsk, t1, t2, t3, t4]
          rw [he]
          have t5 : 20 < maxI (sumsOf cs) := by have := of_decide_eq_false hmle; omega
          have HVZ := Lib.hid hvz; clear hvz
          have HCU := Lib.hid hcu; clear hcu
          have HSUM := Lib.hid hsum; clear hsum
          have HOV := Lib.hid hov'; clear hov'
          have HMAX := Lib.hid hmax; clear hmax
          clear he hr h h2 hmle t1 t2 t3 t4
          generalize maxI (sumsOf cs) = mx at *
          generalize sumsOf cs = sums at *
          obtain ⟨aoq, nq, capq, rfl⟩ := hv
          go_enter Tryz.func39, Tryz.ntmps39
          have b0 : Below w.heap.size w w := Below.refl _ _
          have z0 : w.heap.size ≤ w.heap.size := Nat.le_refl _
          go_wp2_with fail
          refine (HVZ.out _ (by go_grown)).mono ?_
          rintro _ w1 ⟨rfl, r1⟩
          have s1 : Below w.heap.size w w1 := Below.trans (by go_grown) (r1.mono (by simp; try omega))
          have b1 := b0.trans (s1.mono z0)
          have z1 := b1.size
          have y1 := s1.size
          have v1 : w.heap.size + 3 ≤ w1.heap.size := by have := r1.size; simp only [World.size_alloc] at this; omega
          have c0_0_1 := below_cell r1 (p := ⟨w.heap.size, 0, none⟩) (v := .string nm) (by simp [go_sem])
          have c0_1_1 := below_cell r1 (p := ⟨w.heap.size, 1, none⟩) (v := sv) (by simp [go_sem])
          have c1_0_1 := below_cell r1 (p := ⟨w.heap.size + 1, 0, none⟩) (v := .slice aoq nq capq) (by simp [go_sem])
          have c2_0_1 := below_cell r1 (p := ⟨w.heap.size + 1 + 1, 0, none⟩) (v := .string ⟨#[]⟩) (by simp [go_sem])
          have c2_1_1 := below_cell r1 (p := ⟨w.heap.size + 1 + 1, 1, none⟩) (v := .slice none 0 0) (by simp [go_sem])
          have f0_1 : ∀ j, w1.frozen? ⟨w.heap.size, j, none⟩ = false := fun j => (r1.frozen (p := ⟨w.heap.size, j, none⟩) (by simp [go_sem])).trans (by simp [go_sem])
          have f1_1 : ∀ j, w1.frozen? ⟨w.heap.size + 1, j, none⟩ = false := fun j => (r1.frozen (p := ⟨w.heap.size + 1, j, none⟩) (by simp [go_sem])).trans (by simp [go_sem])
          have f2_1 : ∀ j, w1.frozen? ⟨w.heap.size + 1 + 1, j, none⟩ = false := fun j => (r1.frozen (p := ⟨w.heap.size + 1 + 1, j, none⟩) (by simp [go_sem])).trans (by simp [go_sem])
          clear r1
          go_wp2_with fail
          refine (HCU.out _ b1).mono ?_
          rintro _ w2 ⟨rfl, r2⟩
          have s2 := r2
          have b2 := b1.trans (s2.mono z1)
          have z2 := b2.size
          have y2 := s2.size
          have k0_2 := c0_0_1
          have c0_0_2 := below_cell s2 c0_0_1; clear c0_0_1
          have c0_1_2 := below_cell s2 c0_1_1; clear c0_1_1
          have k1_2 := c1_0_1
          have c1_0_2 := below_cell s2 c1_0_1; clear c1_0_1
          have k2_2 := c2_0_1
          have c2_0_2 := below_cell s2 c2_0_1; clear c2_0_1
          have c2_1_2 := below_cell s2 c2_1_1; clear c2_1_1
          have f0_2 : ∀ j, w2.frozen? ⟨w.heap.size, j, none⟩ = false := fun j => (s2.frozen (p := ⟨w.heap.size, j, none⟩) (show w.heap.size < _ from World.block_lt_of_cell? _ ⟨w.heap.size, 0, none⟩ k0_2)).trans (f0_1 j); clear f0_1
          have f1_2 : ∀ j, w2.frozen? ⟨w.heap.size + 1, j, none⟩ = false := fun j => (s2.frozen (p := ⟨w.heap.size + 1, j, none⟩) (show w.heap.size + 1 < _ from World.block_lt_of_cell? _ ⟨w.heap.size + 1, 0, none⟩ k1_2)).trans (f1_1 j); clear f1_1
          have f2_2 : ∀ j, w2.frozen? ⟨w.heap.size + 1 + 1, j, none⟩ = false := fun j => (s2.frozen (p := ⟨w.heap.size + 1 + 1, j, none⟩) (show w.heap.size + 1 + 1 < _ from World.block_lt_of_cell? _ ⟨w.heap.size + 1 + 1, 0, none⟩ k2_2)).trans (f2_1 j); clear f2_1
          clear r2
          go_wp2_with fail
          refine (HSUM.out _ b2).mono ?_
          rintro _ w3 ⟨x3, rfl, n3, r3⟩
          have s3 := r3
          have b3 := b2.trans (s3.mono z2)
          have z3 := b3.size
          have y3 := s3.size
          have k0_3 := c0_0_2
          have c0_0_3 := below_cell s3 c0_0_2; clear c0_0_2
          have c0_1_3 := below_cell s3 c0_1_2; clear c0_1_2
          have k1_3 := c1_0_2
          have c1_0_3 := below_cell s3 c1_0_2; clear c1_0_2
          have k2_3 := c2_0_2
          have c2_0_3 := below_cell s3 c2_0_2; clear c2_0_2
          have c2_1_3 := below_cell s3 c2_1_2; clear c2_1_2
          have f0_3 : ∀ j, w3.frozen? ⟨w.heap.size, j, none⟩ = false := fun j => (s3.frozen (p := ⟨w.heap.size, j, none⟩) (show w.heap.size < _ from World.block_lt_of_cell? _ ⟨w.heap.size, 0, none⟩ k0_3)).trans (f0_2 j); clear f0_2
          have f1_3 : ∀ j, w3.frozen? ⟨w.heap.size + 1, j, none⟩ = false := fun j => (s3.frozen (p := ⟨w.heap.size + 1, j, none⟩) (show w.heap.size + 1 < _ from World.block_lt_of_cell? _ ⟨w.heap.size + 1, 0, none⟩ k1_3)).trans (f1_2 j); clear f1_2
          have f2_3 : ∀ j, w3.frozen? ⟨w.heap.size + 1 + 1, j, none⟩ = false := fun j => (s3.frozen (p := ⟨w.heap.size + 1 + 1, j, none⟩) (show w.heap.size + 1 + 1 < _ from World.block_lt_of_cell? _ ⟨w.heap.size + 1 + 1, 0, none⟩ k2_3)).trans (f2_2 j); clear f2_2
          clear r3
          have N3 := Lib.hid n3; clear n3
          go_wp2_with fail
          refine (HOV.out _ _ b3 c1_0_3).mono ?_
          rintro _ w4 ⟨rfl, r4⟩
          have s4 := r4
          have b4 := b3.trans (s4.mono z3)
          have z4 := b4.size
          have y4 := s4.size
          have k0_4 := c0_0_3
          have c0_0_4 := below_cell s4 c0_0_3; clear c0_0_3
          have c0_1_4 := below_cell s4 c0_1_3; clear c0_1_3
          have k1_4 := c1_0_3
          have c1_0_4 := below_cell s4 c1_0_3; clear c1_0_3
          have k2_4 := c2_0_3
          have c2_0_4 := below_cell s4 c2_0_3; clear c2_0_3
          have c2_1_4 := below_cell s4 c2_1_3; clear c2_1_3
          have f0_4 : ∀ j, w4.frozen? ⟨w.heap.size, j, none⟩ = false := fun j => (s4.frozen (p := ⟨w.heap.size, j, none⟩) (show w.heap.size < _ from World.block_lt_of_cell? _ ⟨w.heap.size, 0, none⟩ k0_4)).trans (f0_3 j); clear f0_3
          have f1_4 : ∀ j, w4.frozen? ⟨w.heap.size + 1, j, none⟩ = false := fun j => (s4.frozen (p := ⟨w.heap.size + 1, j, none⟩) (show w.heap.size + 1 < _ from World.block_lt_of_cell? _ ⟨w.heap.size + 1, 0, none⟩ k1_4)).trans (f1_3 j); clear f1_3
          have f2_4 : ∀ j, w4.frozen? ⟨w.heap.size + 1 + 1, j, none⟩ = false := fun j => (s4.frozen (p := ⟨w.heap.size + 1 + 1, j, none⟩) (show w.heap.size + 1 + 1 < _ from World.block_lt_of_cell? _ ⟨w.heap.size + 1 + 1, 0, none⟩ k2_4)).trans (f2_3 j); clear f2_3
          clear r4
          have rd3 := Rd.of_own (own_later N3.out s4)
          have RD3 := Lib.hid rd3; clear rd3
          go_wp2_with fail
          refine (HMAX.out _ _ RD3.out).mono ?_
          rintro _ _ ⟨rfl, rfl⟩
          go_wp2
          refine bodyPost_ret (v := .tuple #[.agg #[.string ⟨#[]⟩, .slice none 0 0], .int .i64 5]) (by simp [results, Tryz.results39, go_sem, c2_0_4, c2_1_4]) rfl ?_
          exact RetP2.nil (Below.setCell (Below.setCell b4 (show w.heap.size ≤ w.heap.size + 1 + 1 by omega) _) (show w.heap.size ≤ w.heap.size + 1 + 1 by omega) _)
        · have t0 : cutAsk nm ps zs cs = 0 := by simp [cutAsk, t1, t2, t3, t4]
          have he : applyI nm ps zs cs = doneR nm (mapK (turnT zs (sumsOf cs)) ps ps.length) := by simp [applyI, t0]
          rw [he]
          have t5 : maxI (sumsOf cs) ≤ 20 := of_decide_eq_true hmle
          have hpz : profB nm ps = true ∧ zonesB zs ((ps.length : Int) - 1) = true := by simpa only [vzB, Bool.and_eq_true] using t1
          obtain ⟨hl1, hl2, hal, hht⟩ := profB_t hpz.1
          obtain ⟨hz1, hz8⟩ := zones_len hpz.2
          have hturn := fun w' x (hb : Below w.heap.size w w') (hx : Rd w' x (sumsOf cs).length (ints (sumsOf cs))) => turned_c nm sv ps v zs x (sumsOf cs) w' (hr.later hb) (h.later hb) hx hl1 hl2 hal hpz.2 (by rw [sumsOf_len]; exact hz8) (sums_bd t2) (zs_zero hpz.2) (fun a m h1 h2 h3 => zoneI_at hpz.2 h1 h2 h3)
          have hdone := fun base w' x (ho : OwnR base w' x (mapK (turnT zs (sumsOf cs)) ps ps.length)) => orState_c base nm x _ w' hnm ho
          generalize doneR nm (mapK (turnT zs (sumsOf cs)) ps ps.length) = RES at *
          generalize mapK (turnT zs (sumsOf cs)) ps ps.length = qs at *
          have HVZ := Lib.hid hvz; clear hvz
          have HCU := Lib.hid hcu; clear hcu
          have HSUM := Lib.hid hsum; clear hsum
          have HOV := Lib.hid hov'; clear hov'
          have HMAX := Lib.hid hmax; clear hmax
          have HTURN := Lib.hid hturn; clear hturn
          have HDONE := Lib.hid hdone; clear hdone
          clear he hr h h2 hmle t0 t1 t2 t3 t4 hpz hal hht
          generalize maxI (sumsOf cs) = mx at *
          generalize sumsOf cs = sums at *
          obtain ⟨aoq, nq, capq, rfl⟩ := hv
          go_enter Tryz.func39, Tryz.ntmps39
          have b0 : Below w.heap.size w w := Below.refl _ _
          have z0 : w.heap.size ≤ w.heap.size := Nat.le_refl _
          go_wp2_with fail
          refine (HVZ.out _ (by go_grown)).mono ?_
          rintro _ w1 ⟨rfl, r1⟩
          have s1 : Below w.heap.size w w1 := Below.trans (by go_grown) (r1.mono (by simp; try omega))
          have b1 := b0.trans (s1.mono z0)
          have z1 := b1.size
          have y1 := s1.size
          have v1 : w.heap.size + 3 ≤ w1.heap.size := by have := r1.size; simp only [World.size_alloc] at this; omega
          have c0_0_1 := below_cell r1 (p := ⟨w.heap.size, 0, none⟩) (v := .string nm) (by simp [go_sem])
          have c0_1_1 := below_cell r1 (p := ⟨w.heap.size, 1, none⟩) (v := sv) (by simp [go_sem])
          have c1_0_1 := below_cell r1 (p := ⟨w.heap.size + 1, 0, none⟩) (v := .slice aoq nq capq) (by simp [go_sem])
          have c2_0_1 := below_cell r1 (p := ⟨w.heap.size + 1 + 1, 0, none⟩) (v := .string ⟨#[]⟩) (by simp [go_sem])
          have c2_1_1 := below_cell r1 (p := ⟨w.heap.size + 1 + 1, 1, none⟩) (v := .slice none 0 0) (by simp [go_sem])
          have f0_1 : ∀ j, w1.frozen? ⟨w.heap.size, j, none⟩ = false := fun j => (r1.frozen (p := ⟨w.heap.size, j, none⟩) (by simp [go_sem])).trans (by simp [go_sem])
          have f1_1 : ∀ j, w1.frozen? ⟨w.heap.size + 1, j, none⟩ = false := fun j => (r1.frozen (p := ⟨w.heap.size + 1, j, none⟩) (by simp [go_sem])).trans (by simp [go_sem])
          have f2_1 : ∀ j, w1.frozen? ⟨w.heap.size + 1 + 1, j, none⟩ = false := fun j => (r1.frozen (p := ⟨w.heap.size + 1 + 1, j, none⟩) (by simp [go_sem])).trans (by simp [go_sem])
          clear r1
          go_wp2_with fail
          refine (HCU.out _ b1).mono ?_
          rintro _ w2 ⟨rfl, r2⟩
          have s2 := r2
          have b2 := b1.trans (s2.mono z1)
          have z2 := b2.size
          have y2 := s2.size
          have k0_2 := c0_0_1
          have c0_0_2 := below_cell s2 c0_0_1; clear c0_0_1
          have c0_1_2 := below_cell s2 c0_1_1; clear c0_1_1
          have k1_2 := c1_0_1
          have c1_0_2 := below_cell s2 c1_0_1; clear c1_0_1
          have k2_2 := c2_0_1
          have c2_0_2 := below_cell s2 c2_0_1; clear c2_0_1
          have c2_1_2 := below_cell s2 c2_1_1; clear c2_1_1
          have f0_2 : ∀ j, w2.frozen? ⟨w.heap.size, j, none⟩ = false := fun j => (s2.frozen (p := ⟨w.heap.size, j, none⟩) (show w.heap.size < _ from World.block_lt_of_cell? _ ⟨w.heap.size, 0, none⟩ k0_2)).trans (f0_1 j); clear f0_1
          have f1_2 : ∀ j, w2.frozen? ⟨w.heap.size + 1, j, none⟩ = false := fun j => (s2.frozen (p := ⟨w.heap.size + 1, j, none⟩) (show w.heap.size + 1 < _ from World.block_lt_of_cell? _ ⟨w.heap.size + 1, 0, none⟩ k1_2)).trans (f1_1 j); clear f1_1
          have f2_2 : ∀ j, w2.frozen? ⟨w.heap.size + 1 + 1, j, none⟩ = false := fun j => (s2.frozen (p := ⟨w.heap.size + 1 + 1, j, none⟩) (show w.heap.size + 1 + 1 < _ from World.block_lt_of_cell? _ ⟨w.heap.size + 1 + 1, 0, none⟩ k2_2)).trans (f2_1 j); clear f2_1
          clear r2
          go_wp2_with fail
          refine (HSUM.out _ b2).mono ?_
          rintro _ w3 ⟨x3, rfl, n3, r3⟩
          have s3 := r3
          have b3 := b2.trans (s3.mono z2)
          have z3 := b3.size
          have y3 := s3.size
          have k0_3 := c0_0_2
          have c0_0_3 := below_cell s3 c0_0_2; clear c0_0_2
          have c0_1_3 := below_cell s3 c0_1_2; clear c0_1_2
          have k1_3 := c1_0_2
          have c1_0_3 := below_cell s3 c1_0_2; clear c1_0_2
          have k2_3 := c2_0_2
          have c2_0_3 := below_cell s3 c2_0_2; clear c2_0_2
          have c2_1_3 := below_cell s3 c2_1_2; clear c2_1_2
          have f0_3 : ∀ j, w3.frozen? ⟨w.heap.size, j, none⟩ = false := fun j => (s3.frozen (p := ⟨w.heap.size, j, none⟩) (show w.heap.size < _ from World.block_lt_of_cell? _ ⟨w.heap.size, 0, none⟩ k0_3)).trans (f0_2 j); clear f0_2
          have f1_3 : ∀ j, w3.frozen? ⟨w.heap.size + 1, j, none⟩ = false := fun j => (s3.frozen (p := ⟨w.heap.size + 1, j, none⟩) (show w.heap.size + 1 < _ from World.block_lt_of_cell? _ ⟨w.heap.size + 1, 0, none⟩ k1_3)).trans (f1_2 j); clear f1_2
          have f2_3 : ∀ j, w3.frozen? ⟨w.heap.size + 1 + 1, j, none⟩ = false := fun j => (s3.frozen (p := ⟨w.heap.size + 1 + 1, j, none⟩) (show w.heap.size + 1 + 1 < _ from World.block_lt_of_cell? _ ⟨w.heap.size + 1 + 1, 0, none⟩ k2_3)).trans (f2_2 j); clear f2_2
          clear r3
          have N3 := Lib.hid n3; clear n3
          go_wp2_with fail
          refine (HOV.out _ _ b3 c1_0_3).mono ?_
          rintro _ w4 ⟨rfl, r4⟩
          have s4 := r4
          have b4 := b3.trans (s4.mono z3)
          have z4 := b4.size
          have y4 := s4.size
          have k0_4 := c0_0_3
          have c0_0_4 := below_cell s4 c0_0_3; clear c0_0_3
          have c0_1_4 := below_cell s4 c0_1_3; clear c0_1_3
          have k1_4 := c1_0_3
          have c1_0_4 := below_cell s4 c1_0_3; clear c1_0_3
          have k2_4 := c2_0_3
          have c2_0_4 := below_cell s4 c2_0_3; clear c2_0_3
          have c2_1_4 := below_cell s4 c2_1_3; clear c2_1_3
          have f0_4 : ∀ j, w4.frozen? ⟨w.heap.size, j, none⟩ = false := fun j => (s4.frozen (p := ⟨w.heap.size, j, none⟩) (show w.heap.size < _ from World.block_lt_of_cell? _ ⟨w.heap.size, 0, none⟩ k0_4)).trans (f0_3 j); clear f0_3
          have f1_4 : ∀ j, w4.frozen? ⟨w.heap.size + 1, j, none⟩ = false := fun j => (s4.frozen (p := ⟨w.heap.size + 1, j, none⟩) (show w.heap.size + 1 < _ from World.block_lt_of_cell? _ ⟨w.heap.size + 1, 0, none⟩ k1_4)).trans (f1_3 j); clear f1_3
          have f2_4 : ∀ j, w4.frozen? ⟨w.heap.size + 1 + 1, j, none⟩ = false := fun j => (s4.frozen (p := ⟨w.heap.size + 1 + 1, j, none⟩) (show w.heap.size + 1 + 1 < _ from World.block_lt_of_cell? _ ⟨w.heap.size + 1 + 1, 0, none⟩ k2_4)).trans (f2_3 j); clear f2_3
          clear r4
          have rd3 := Rd.of_own (own_later N3.out s4)
          have RD3 := Lib.hid rd3; clear rd3
          go_wp2_with fail
          refine (HMAX.out _ _ RD3.out).mono ?_
          rintro _ _ ⟨rfl, rfl⟩
          go_wp2_with fail
          refine (HTURN.out _ _ b4 RD3.out).mono ?_
          rintro _ w5 ⟨x5, rfl, n5, r5⟩
          have s5 := r5
          have b5 := b4.trans (s5.mono z4)
          have z5 := b5.size
          have y5 := s5.size
          have k0_5 := c0_0_4
          have c0_0_5 := below_cell s5 c0_0_4; clear c0_0_4
          have c0_1_5 := below_cell s5 c0_1_4; clear c0_1_4
          have k1_5 := c1_0_4
          have c1_0_5 := below_cell s5 c1_0_4; clear c1_0_4
          have k2_5 := c2_0_4
          have c2_0_5 := below_cell s5 c2_0_4; clear c2_0_4
          have c2_1_5 := below_cell s5 c2_1_4; clear c2_1_4
          have f0_5 : ∀ j, w5.frozen? ⟨w.heap.size, j, none⟩ = false := fun j => (s5.frozen (p := ⟨w.heap.size, j, none⟩) (show w.heap.size < _ from World.block_lt_of_cell? _ ⟨w.heap.size, 0, none⟩ k0_5)).trans (f0_4 j); clear f0_4
          have f1_5 : ∀ j, w5.frozen? ⟨w.heap.size + 1, j, none⟩ = false := fun j => (s5.frozen (p := ⟨w.heap.size + 1, j, none⟩) (show w.heap.size + 1 < _ from World.block_lt_of_cell? _ ⟨w.heap.size + 1, 0, none⟩ k1_5)).trans (f1_4 j); clear f1_4
          have f2_5 : ∀ j, w5.frozen? ⟨w.heap.size + 1 + 1, j, none⟩ = false := fun j => (s5.frozen (p := ⟨w.heap.size + 1 + 1, j, none⟩) (show w.heap.size + 1 + 1 < _ from World.block_lt_of_cell? _ ⟨w.heap.size + 1 + 1, 0, none⟩ k2_5)).trans (f2_4 j); clear f2_4
          clear r5
          have N5 := Lib.hid n5; clear n5
          go_wp2_with fail
          refine (HDONE.out _ _ _ N5.out).mono ?_
          rintro _ w6 ⟨x6, rfl, n6, r6⟩
          have s6 := r6
          have b6 := b5.trans (s6.mono z5)
          have z6 := b6.size
          have y6 := s6.size
          have k0_6 := c0_0_5
          have c0_0_6 := below_cell s6 c0_0_5; clear c0_0_5
          have c0_1_6 := below_cell s6 c0_1_5; clear c0_1_5
          have k1_6 := c1_0_5
          have c1_0_6 := below_cell s6 c1_0_5; clear c1_0_5
          have k2_6 := c2_0_5
          have c2_0_6 := below_cell s6 c2_0_5; clear c2_0_5
          have c2_1_6 := below_cell s6 c2_1_5; clear c2_1_5
          have f0_6 : ∀ j, w6.frozen? ⟨w.heap.size, j, none⟩ = false := fun j => (s6.frozen (p := ⟨w.heap.size, j, none⟩) (show w.heap.size < _ from World.block_lt_of_cell? _ ⟨w.heap.size, 0, none⟩ k0_6)).trans (f0_5 j); clear f0_5
          have f1_6 : ∀ j, w6.frozen? ⟨w.heap.size + 1, j, none⟩ = false := fun j => (s6.frozen (p := ⟨w.heap.size + 1, j, none⟩) (show w.heap.size + 1 < _ from World.block_lt_of_cell? _ ⟨w.heap.size + 1, 0, none⟩ k1_6)).trans (f1_5 j); clear f1_5
          have f2_6 : ∀ j, w6.frozen? ⟨w.heap.size + 1 + 1, j, none⟩ = false := fun j => (s6.frozen (p := ⟨w.heap.size + 1 + 1, j, none⟩) (show w.heap.size + 1 + 1 < _ from World.block_lt_of_cell? _ ⟨w.heap.size + 1 + 1, 0, none⟩ k2_6)).trans (f2_5 j); clear f2_5
          clear r6
          obtain ⟨a4, p4, rfl⟩ := own_shape n6
          have lo4 := own_lo n6
          go_wp2
          refine bodyPost_ret (v := .tuple #[.agg #[.string RES.1, .slice a4 RES.2.1.length p4], .int .i64 RES.2.2]) (by simp [results, Tryz.results39, go_sem, *]) rfl ?_
          have o11 := own_set n6 (a := ⟨w.heap.size + 1 + 1, 0, none⟩) (fun k hk => by have := lo4 k hk; simp; omega) (.string RES.1)
          have o12 := own_set o11 (a := ⟨w.heap.size + 1 + 1, 1, none⟩) (fun k hk => by have := lo4 k hk; simp; omega) (.slice a4 RES.2.1.length p4)
          exact ⟨_, rfl, own_base o12 (by omega), (b6.setCell (show w.heap.size ≤ w.heap.size + 1 + 1 by omega) _).setCell (show w.heap.size ≤ w.heap.size + 1 + 1 by omega) _⟩
      · have he : applyI nm ps zs cs = (⟨#[]⟩, [], 2) := by simp [applyI, cutAsk, t1, t2, t3]
        rw [he]
        have HVZ := Lib.hid hvz; clear hvz
        have HCU := Lib.hid hcu; clear hcu
        have HSUM := Lib.hid hsum; clear hsum
        have HOV := Lib.hid hov'; clear hov'
        clear he hr h h2 t1 t2 t3
        obtain ⟨aoq, nq, capq, rfl⟩ := hv
        go_enter Tryz.func39, Tryz.ntmps39
        have b0 : Below w.heap.size w w := Below.refl _ _
        have z0 : w.heap.size ≤ w.heap.size := Nat.le_refl _
        go_wp2_with fail
        refine (HVZ.out _ (by go_grown)).mono ?_
        rintro _ w1 ⟨rfl, r1⟩
        have s1 : Below w.heap.size w w1 := Below.trans (by go_grown) (r1.mono (by simp; try omega))
        have b1 := b0.trans (s1.mono z0)
        have z1 := b1.size
        have y1 := s1.size
        have v1 : w.heap.size + 3 ≤ w1.heap.size := by have := r1.size; simp only [World.size_alloc] at this; omega
        have c0_0_1 := below_cell r1 (p := ⟨w.heap.size, 0, none⟩) (v := .string nm) (by simp [go_sem])
        have c0_1_1 := below_cell r1 (p := ⟨w.heap.size, 1, none⟩) (v := sv) (by simp [go_sem])
        have c1_0_1 := below_cell r1 (p := ⟨w.heap.size + 1, 0, none⟩) (v := .slice aoq nq capq) (by simp [go_sem])
        have c2_0_1 := below_cell r1 (p := ⟨w.heap.size + 1 + 1, 0, none⟩) (v := .string ⟨#[]⟩) (by simp [go_sem])
        have c2_1_1 := below_cell r1 (p := ⟨w.heap.size + 1 + 1, 1, none⟩) (v := .slice none 0 0) (by simp [go_sem])
        have f0_1 : ∀ j, w1.frozen? ⟨w.heap.size, j, none⟩ = false := fun j => (r1.frozen (p := ⟨w.heap.size, j, none⟩) (by simp [go_sem])).trans (by simp [go_sem])
        have f1_1 : ∀ j, w1.frozen? ⟨w.heap.size + 1, j, none⟩ = false := fun j => (r1.frozen (p := ⟨w.heap.size + 1, j, none⟩) (by simp [go_sem])).trans (by simp [go_sem])
        have f2_1 : ∀ j, w1.frozen? ⟨w.heap.size + 1 + 1, j, none⟩ = false := fun j => (r1.frozen (p := ⟨w.heap.size + 1 + 1, j, none⟩) (by simp [go_sem])).trans (by simp [go_sem])
        clear r1
        go_wp2_with fail
        refine (HCU.out _ b1).mono ?_
        rintro _ w2 ⟨rfl, r2⟩
        have s2 := r2
        have b2 := b1.trans (s2.mono z1)
        have z2 := b2.size
        have y2 := s2.size
        have k0_2 := c0_0_1
        have c0_0_2 := below_cell s2 c0_0_1; clear c0_0_1
        have c0_1_2 := below_cell s2 c0_1_1; clear c0_1_1
        have k1_2 := c1_0_1
        have c1_0_2 := below_cell s2 c1_0_1; clear c1_0_1
        have k2_2 := c2_0_1
        have c2_0_2 := below_cell s2 c2_0_1; clear c2_0_1
        have c2_1_2 := below_cell s2 c2_1_1; clear c2_1_1
        have f0_2 : ∀ j, w2.frozen? ⟨w.heap.size, j, none⟩ = false := fun j => (s2.frozen (p := ⟨w.heap.size, j, none⟩) (show w.heap.size < _ from World.block_lt_of_cell? _ ⟨w.heap.size, 0, none⟩ k0_2)).trans (f0_1 j); clear f0_1
        have f1_2 : ∀ j, w2.frozen? ⟨w.heap.size + 1, j, none⟩ = false := fun j => (s2.frozen (p := ⟨w.heap.size + 1, j, none⟩) (show w.heap.size + 1 < _ from World.block_lt_of_cell? _ ⟨w.heap.size + 1, 0, none⟩ k1_2)).trans (f1_1 j); clear f1_1
        have f2_2 : ∀ j, w2.frozen? ⟨w.heap.size + 1 + 1, j, none⟩ = false := fun j => (s2.frozen (p := ⟨w.heap.size + 1 + 1, j, none⟩) (show w.heap.size + 1 + 1 < _ from World.block_lt_of_cell? _ ⟨w.heap.size + 1 + 1, 0, none⟩ k2_2)).trans (f2_1 j); clear f2_1
        clear r2
        go_wp2_with fail
        refine (HSUM.out _ b2).mono ?_
        rintro _ w3 ⟨x3, rfl, n3, r3⟩
        have s3 := r3
        have b3 := b2.trans (s3.mono z2)
        have z3 := b3.size
        have y3 := s3.size
        have k0_3 := c0_0_2
        have c0_0_3 := below_cell s3 c0_0_2; clear c0_0_2
        have c0_1_3 := below_cell s3 c0_1_2; clear c0_1_2
        have k1_3 := c1_0_2
        have c1_0_3 := below_cell s3 c1_0_2; clear c1_0_2
        have k2_3 := c2_0_2
        have c2_0_3 := below_cell s3 c2_0_2; clear c2_0_2
        have c2_1_3 := below_cell s3 c2_1_2; clear c2_1_2
        have f0_3 : ∀ j, w3.frozen? ⟨w.heap.size, j, none⟩ = false := fun j => (s3.frozen (p := ⟨w.heap.size, j, none⟩) (show w.heap.size < _ from World.block_lt_of_cell? _ ⟨w.heap.size, 0, none⟩ k0_3)).trans (f0_2 j); clear f0_2
        have f1_3 : ∀ j, w3.frozen? ⟨w.heap.size + 1, j, none⟩ = false := fun j => (s3.frozen (p := ⟨w.heap.size + 1, j, none⟩) (show w.heap.size + 1 < _ from World.block_lt_of_cell? _ ⟨w.heap.size + 1, 0, none⟩ k1_3)).trans (f1_2 j); clear f1_2
        have f2_3 : ∀ j, w3.frozen? ⟨w.heap.size + 1 + 1, j, none⟩ = false := fun j => (s3.frozen (p := ⟨w.heap.size + 1 + 1, j, none⟩) (show w.heap.size + 1 + 1 < _ from World.block_lt_of_cell? _ ⟨w.heap.size + 1 + 1, 0, none⟩ k2_3)).trans (f2_2 j); clear f2_2
        clear r3
        clear n3
        go_wp2_with fail
        refine (HOV.out _ _ b3 c1_0_3).mono ?_
        rintro _ w4 ⟨rfl, r4⟩
        have s4 := r4
        have b4 := b3.trans (s4.mono z3)
        have z4 := b4.size
        have y4 := s4.size
        have k0_4 := c0_0_3
        have c0_0_4 := below_cell s4 c0_0_3; clear c0_0_3
        have c0_1_4 := below_cell s4 c0_1_3; clear c0_1_3
        have k1_4 := c1_0_3
        have c1_0_4 := below_cell s4 c1_0_3; clear c1_0_3
        have k2_4 := c2_0_3
        have c2_0_4 := below_cell s4 c2_0_3; clear c2_0_3
        have c2_1_4 := below_cell s4 c2_1_3; clear c2_1_3
        have f0_4 : ∀ j, w4.frozen? ⟨w.heap.size, j, none⟩ = false := fun j => (s4.frozen (p := ⟨w.heap.size, j, none⟩) (show w.heap.size < _ from World.block_lt_of_cell? _ ⟨w.heap.size, 0, none⟩ k0_4)).trans (f0_3 j); clear f0_3
        have f1_4 : ∀ j, w4.frozen? ⟨w.heap.size + 1, j, none⟩ = false := fun j => (s4.frozen (p := ⟨w.heap.size + 1, j, none⟩) (show w.heap.size + 1 < _ from World.block_lt_of_cell? _ ⟨w.heap.size + 1, 0, none⟩ k1_4)).trans (f1_3 j); clear f1_3
        have f2_4 : ∀ j, w4.frozen? ⟨w.heap.size + 1 + 1, j, none⟩ = false := fun j => (s4.frozen (p := ⟨w.heap.size + 1 + 1, j, none⟩) (show w.heap.size + 1 + 1 < _ from World.block_lt_of_cell? _ ⟨w.heap.size + 1 + 1, 0, none⟩ k2_4)).trans (f2_3 j); clear f2_3
        clear r4
        go_wp2
        refine bodyPost_ret (v := .tuple #[.agg #[.string ⟨#[]⟩, .slice none 0 0], .int .i64 2]) (by simp [results, Tryz.results39, go_sem, c2_0_4, c2_1_4]) rfl ?_
        exact RetP2.nil (Below.setCell (Below.setCell b4 (show w.heap.size ≤ w.heap.size + 1 + 1 by omega) _) (show w.heap.size ≤ w.heap.size + 1 + 1 by omega) _)

end Go.Proofs.YtgdadbmhdljcdaaGreatDoor

/- What cuts take away. -/
namespace Go.Proofs.YtgdadbmhdljcdaaGreatDoor
set_option linter.unusedVariables false
open Go.RowKit Go.Proofs.Bell Go.BigFrame

def chipK (ps qs : List (Int × Int × Int)) : Nat → Int
  | 0 => 0
  | k + 1 => chipK ps qs k + ((rg qs k).2.1 - (rg ps k).2.1) * (rg ps k).2.2
def chipsI (nm : ByteArray) (ps : List (Int × Int × Int)) (zs : List Int) (cs : List (Int × Int)) : Int × Int := if (applyI nm ps zs cs).2.2 = 0 then (chipK ps (applyI nm ps zs cs).2.1 ps.length, 0) else (0, (applyI nm ps zs cs).2.2)
theorem prod_bd {x y : Int} (h1 : -150000 ≤ x) (h2 : x ≤ 150000) (h3 : 0 ≤ y) (h4 : y ≤ 300000) : -45000000000 ≤ x * y ∧ x * y ≤ 45000000000 := by
  have a := Int.mul_le_mul_of_nonneg_right h2 h3
  have b := Int.mul_le_mul_of_nonneg_right h1 h3
  omega
theorem chipK_bd {ps qs : List (Int × Int × Int)} (h : ps.all ringT = true) (h' : qs.all ringT = true) : ∀ k, k ≤ ps.length → k ≤ qs.length → -45000000000 * (k : Int) ≤ chipK ps qs k ∧ chipK ps qs k ≤ 45000000000 * k
  | 0, _, _ => by simp [chipK]
  | k + 1, h1, h2 => by
    have ih := chipK_bd h h' k (by omega) (by omega)
    have a := ringT_t (all_at h (show k < ps.length by omega))
    have b := ringT_t (all_at h' (show k < qs.length by omega))
    have := prod_bd (x := (rg qs k).2.1 - (rg ps k).2.1) (y := (rg ps k).2.2) (by omega) (by omega) (by omega) (by omega)
    simp only [chipK]
    omega
theorem doneR_ok {nm : ByteArray} {qs : List (Int × Int × Int)} (h : (doneR nm qs).2.2 = 0) : profB nm qs = true ∧ (doneR nm qs).1 = nm ∧ (doneR nm qs).2.1 = qs := by
  unfold doneR at h ⊢
  cases t : profB nm qs
  · simp [t] at h
  · simp
theorem applyI_ok {nm : ByteArray} {ps : List (Int × Int × Int)} {zs : List Int} {cs : List (Int × Int)} (h : (applyI nm ps zs cs).2.2 = 0) :
    profB nm ps = true ∧ (applyI nm ps zs cs).2.1.length = ps.length ∧ (applyI nm ps zs cs).2.1.all ringT = true := by
  by_cases t0 : cutAsk nm ps zs cs = 0
  · have he : applyI nm ps zs cs = doneR nm (mapK (turnT zs (sumsOf cs)) ps ps.length) := by simp [applyI, t0]
    rw [he] at h ⊢
    obtain ⟨h1, h2, h3⟩ := doneR_ok h
    rw [h3]
    obtain ⟨t1, _⟩ := cutAsk_ok t0
    have hpz : profB nm ps = true ∧ zonesB zs ((ps.length : Int) - 1) = true := by simpa only [vzB, Bool.and_eq_true] using t1
    exact ⟨hpz.1, mapK_len _ _ _, (profB_t h1).2.2.1⟩
  · have he : applyI nm ps zs cs = (⟨#[]⟩, [], cutAsk nm ps zs cs) := by simp [applyI, t0]
    rw [he] at h
    exact absurd h t0

end Go.Proofs.YtgdadbmhdljcdaaGreatDoor

/- By how much partials become less: plain. -/
namespace Go.Proofs.YtgdadbmhdljcdaaGreatDoor
set_option linter.unusedVariables false
open Go.RowKit Go.Proofs.Bell Go.BigFrame

def diffK (a b : List Int) : Nat → List Int
  | 0 => []
  | k + 1 => diffK a b k ++ [a.getD k 0 - b.getD k 0]
theorem diffK_len (a b : List Int) : ∀ k, (diffK a b k).length = k
  | 0 => rfl
  | k + 1 => by rw [diffK, List.length_append, diffK_len a b k]; rfl
def senI (zs : List Int) (ws : List (List Int)) (bs : List Int) (nm : ByteArray) (ps : List (Int × Int × Int)) (zone : Int) : List Int × Int :=
  if modAsk zs ws bs nm ps = 0 then
    if inB zone 0 ((zs.length : Int) - 1) then
      if (applyI nm ps zs [(zone, 1)]).2.2 = 0 then (diffK (rawL ps zs ws bs) (rawL (applyI nm ps zs [(zone, 1)]).2.1 zs ws bs) 5, 0) else ([], 6)
    else ([], 2)
  else ([], modAsk zs ws bs nm ps)
theorem senI_len (zs : List Int) (ws : List (List Int)) (bs : List Int) (nm : ByteArray) (ps : List (Int × Int × Int)) (zone : Int) : (senI zs ws bs nm ps zone).1.length ≤ 5 := by
  unfold senI
  split
  · split
    · split
      · simp [diffK_len]
      · simp
    · simp
  · simp
theorem rawK_at (walls : List Int) (ws : List (List Int)) (bs : List Int) (d : Int) : ∀ n k, k < n → (rawK walls ws bs d n).getD k 0 = rnd (bs.getD k 0 * momK walls (ws.getD k []) walls.length) d
  | 0, _, h => absurd h (Nat.not_lt_zero _)
  | n + 1, k, h => by
    have hl := rawK_len walls ws bs d n
    rw [rawK]
    rcases Nat.lt_or_ge k n with h1 | h1
    · rw [← rawK_at walls ws bs d n k h1]
      simp only [List.getD]
      rw [List.getElem?_append_left (by omega)]
    · obtain rfl : k = n := by omega
      simp only [List.getD]
      rw [List.getElem?_append_right (by omega), hl]
      simp
theorem raw_bd {ps : List (Int × Int × Int)} {zs : List Int} {ws : List (List Int)} {bs : List Int} (hmb : modelB zs ws bs = true) (hl : 1 ≤ ps.length) (hal : ps.all ringT = true) (hzb : zonesB zs ((ps.length : Int) - 1) = true) (k : Nat) (hk : k < 5) :
    0 ≤ (rawL ps zs ws bs).getD k 0 ∧ (rawL ps zs ws bs).getD k 0 ≤ 1200000000000000000 := by
  obtain ⟨_, hz8, _, _, _⟩ := modelB_t hmb
  obtain ⟨_, hrb, hb1, hb2⟩ := row_bd hmb k hk
  have hm := momK_bd (walls := zwK ps zs zs.length) (row := ws.getD k []) (zw_bd hal hzb) hrb (zwK ps zs zs.length).length
  have hwl := zwK_len ps zs zs.length
  have hp := base_bd hb1 hb2 hm.1 (by omega)
  have hlb := lipI_bd hl hal
  unfold rawL
  rw [rawK_at _ _ _ _ _ _ hk]
  refine ⟨rnd_nonneg hp.1 hlb.1, ?_⟩
  have := rnd_mb (a := bs.getD k 0 * momK (zwK ps zs zs.length) (ws.getD k []) (zwK ps zs zs.length).length) (b := lipI ps) (m := 1200000000000000000) hp.1 (by have := Int.mul_le_mul_of_nonneg_left hlb.1 (show (0 : Int) ≤ 1200000000000000000 by omega); omega) hlb.1 (by omega)
  exact this.2
theorem applyI_zones {nm : ByteArray} {ps : List (Int × Int × Int)} {zs : List Int} {cs : List (Int × Int)} (h : (applyI nm ps zs cs).2.2 = 0) : profB nm (applyI nm ps zs cs).2.1 = true ∧ (applyI nm ps zs cs).1 = nm := by
  by_cases t0 : cutAsk nm ps zs cs = 0
  · have he : applyI nm ps zs cs = doneR nm (mapK (turnT zs (sumsOf cs)) ps ps.length) := by simp [applyI, t0]
    rw [he] at h ⊢
    obtain ⟨h1, h2, h3⟩ := doneR_ok h
    rw [h3]
    exact ⟨h1, h2⟩
  · have he : applyI nm ps zs cs = (⟨#[]⟩, [], cutAsk nm ps zs cs) := by simp [applyI, t0]
    rw [he] at h
    exact absurd h t0

end Go.Proofs.YtgdadbmhdljcdaaGreatDoor

/- A model that is fitted to a sound gives nearly this sound: plain. -/
namespace Go.Proofs.YtgdadbmhdljcdaaGreatDoor
set_option linter.unusedVariables false
open Go.RowKit Go.Proofs.Bell Go.BigFrame

theorem rnd_near {a b : Int} (ha : 0 ≤ a) (hb : 1 ≤ b) : 2 * a - b ≤ 2 * (b * rnd a b) ∧ 2 * (b * rnd a b) ≤ 2 * a + b := by
  unfold rnd
  rw [if_neg (by omega)]
  have h1 := Int.mul_ediv_add_emod (2 * a + b) (2 * b)
  have h2 := Int.emod_nonneg (2 * a + b) (show 2 * b ≠ 0 by omega)
  have h3 := Int.emod_lt_of_pos (2 * a + b) (show 0 < 2 * b by omega)
  rw [Int.mul_assoc] at h1
  omega
/-- the base is the nearest quotient, the partial the nearest quotient back -/
theorem near_law {f A M base raw : Int} (hf : 0 ≤ f) (hA : 1 ≤ A) (hM : 1 ≤ M) (hb : base = rnd (f * A) M) (hb1 : 1 ≤ base) (hr : raw = rnd (base * M) A) :
    2 * absI (raw - f) * base ≤ raw + 2 * f + 4 * base ∧ 0 ≤ raw := by
  have hfA : 0 ≤ f * A := Int.mul_nonneg hf (by omega)
  have hbM : 0 ≤ base * M := Int.mul_nonneg (by omega) (by omega)
  obtain ⟨a1, a2⟩ := rnd_near hfA hM
  obtain ⟨c1, c2⟩ := rnd_near hbM hA
  rw [← hb] at a1 a2
  rw [← hr] at c1 c2
  have hr0 : 0 ≤ raw := by rw [hr]; exact rnd_nonneg hbM hA
  have e1 : M * base = base * M := Int.mul_comm _ _
  have hMb : M ≤ base * M := by
    have := Int.mul_le_mul_of_nonneg_right hb1 (show 0 ≤ M by omega)
    omega
  have e2 : A * (raw - f) = A * raw - f * A := by rw [Int.mul_sub, Int.mul_comm A f]
  have hd : 2 * (A * absI (raw - f)) ≤ A + M := by
    unfold absI
    split
    · rw [Int.mul_neg]; omega
    · omega
  have h0 : 0 ≤ absI (raw - f) := by unfold absI; split <;> omega
  -- multiply by the base
  have hm : 2 * (A * absI (raw - f)) * base ≤ (A + M) * base := Int.mul_le_mul_of_nonneg_right hd (by omega)
  rw [Int.add_mul] at hm
  have hk : 2 * (A * absI (raw - f)) * base = A * (2 * absI (raw - f) * base) := by
    rw [Int.mul_left_comm 2 A, Int.mul_assoc A]
  rw [hk] at hm
  have hfin : A * (2 * absI (raw - f) * base) ≤ A * (base + 2 * f) := by
    rw [Int.mul_add A base, show A * (2 * f) = 2 * (f * A) by rw [Int.mul_comm A, Int.mul_assoc]]
    omega
  have := Int.le_of_mul_le_mul_left hfin (by omega)
  exact ⟨by omega, hr0⟩

theorem fitK_val (ls sums bs : List Int) (area : Int) (hb : 5 ≤ bs.length) : ∀ n k, n ≤ 5 → k < n → (fitK ls sums area bs n).getD k 0 = fitV ls sums area k
  | 0, _, _, h => absurd h (Nat.not_lt_zero _)
  | n + 1, k, hn, h => by
    have hl := fitK_len ls sums area bs n
    have e : fitK ls sums area bs (n + 1) = (fitK ls sums area bs n).set n (fitV ls sums area n) := rfl
    rw [e]
    rcases Nat.lt_or_ge k n with h1 | h1
    · rw [← fitK_val ls sums bs area hb n k (by omega) h1]
      simp [List.getD, List.getElem?_set, show n ≠ k by omega]
    · obtain rfl : k = n := by omega
      simp [List.getD, List.getElem?_set, show k < (fitK ls sums area bs k).length by omega]
theorem fitOk_val (ls sums : List Int) (area : Int) : ∀ n k, k < n → fitOkK ls sums area n = true → inB (fitV ls sums area k) 1 1000000000 = true
  | 0, _, h, _ => absurd h (Nat.not_lt_zero _)
  | n + 1, k, h, ho => by
    rw [fitOkK, Bool.and_eq_true] at ho
    rcases Nat.lt_or_ge k n with h1 | h1
    · exact fitOk_val ls sums area n k h1 ho.1
    · obtain rfl : k = n := by omega
      exact ho.2

theorem fit_law {zs : List Int} {ws : List (List Int)} {bs : List Int} {nm : ByteArray} {ps : List (Int × Int × Int)} {a b c d f : Int} (h : (fitM zs ws bs nm ps a b c d f).2 = 0) :
    ∃ fs, (fitM zs ws bs nm ps a b c d f).1 = (zs, ws, fs) ∧ soundB a b c d f = true ∧ fs.length = 5 ∧ modelB zs ws fs = true ∧ rawI zs ws fs nm ps = (rawL ps zs ws fs, 0)
      ∧ ∀ k, k < 5 → 1 ≤ fs.getD k 0 ∧ fs.getD k 0 ≤ 1000000000 ∧ 0 ≤ (rawL ps zs ws fs).getD k 0 ∧ (rawL ps zs ws fs).getD k 0 ≤ 2000000000000000000
        ∧ 2 * absI ((rawL ps zs ws fs).getD k 0 - [a, b, c, d, f].getD k 0) * fs.getD k 0 ≤ (rawL ps zs ws fs).getD k 0 + 2 * [a, b, c, d, f].getD k 0 + 4 * fs.getD k 0 := by
  unfold fitM at h ⊢
  cases t0 : soundB a b c d f
  · rw [t0] at h; simp at h
  rw [t0] at h
  simp only [if_true] at h ⊢
  by_cases t1 : modAsk zs ws bs nm ps = 0
  case neg => rw [if_neg t1] at h; exact absurd h t1
  rw [if_pos t1] at h ⊢
  cases t2 : (fitI zs ws bs ps [a, b, c, d, f]).2
  · rw [t2] at h; simp at h
  simp only [if_true]
  obtain ⟨m1, m2, m3⟩ := modAsk_ok t1
  obtain ⟨hl1, hl2, hal, hht⟩ := profB_t m2
  obtain ⟨hz1, hz8, hw5, hb5, hrow⟩ := modelB_t m1
  have hlb := lipI_bd hl1 hal
  have hv1 : vzB nm ps zs = true := by simp [vzB, m2, m3]
  have hok : fitOkK [a, b, c, d, f] (sumsK (zwK ps zs zs.length) ws 5) (lipI ps) 5 = true := by
    cases e : fitOkK [a, b, c, d, f] (sumsK (zwK ps zs zs.length) ws 5) (lipI ps) 5
    · simp [fitI, e] at t2
    · rfl
  have hfi : fitI zs ws bs ps [a, b, c, d, f] = ((zs, ws, fitK [a, b, c, d, f] (sumsK (zwK ps zs zs.length) ws 5) (lipI ps) bs 5), true) := by simp [fitI, hok]
  have hfl := fitK_len [a, b, c, d, f] (sumsK (zwK ps zs zs.length) ws 5) (lipI ps) bs 5
  have hat : ∀ k, k < 5 → (fitK [a, b, c, d, f] (sumsK (zwK ps zs zs.length) ws 5) (lipI ps) bs 5).getD k 0 = rnd ([a, b, c, d, f].getD k 0 * lipI ps) (momK (zwK ps zs zs.length) (ws.getD k []) zs.length) := fun k hk => by
    rw [fitK_val _ _ _ _ (by omega) 5 k (by omega) hk]
    show rnd ([a, b, c, d, f].getD k 0 * lipI ps) ((sumsK (zwK ps zs zs.length) ws 5).getD k 0) = _
    rw [sumsK_at _ _ 5 k hk, zwK_len]
  have hin : ∀ k, k < 5 → 1 ≤ (fitK [a, b, c, d, f] (sumsK (zwK ps zs zs.length) ws 5) (lipI ps) bs 5).getD k 0 ∧ (fitK [a, b, c, d, f] (sumsK (zwK ps zs zs.length) ws 5) (lipI ps) bs 5).getD k 0 ≤ 1000000000 := fun k hk => by
    rw [fitK_val _ _ _ _ (by omega) 5 k (by omega) hk]
    exact inB_t (fitOk_val _ _ _ 5 k hk hok)
  generalize fitK [a, b, c, d, f] (sumsK (zwK ps zs zs.length) ws 5) (lipI ps) bs 5 = fs at *
  have hmb : modelB zs ws fs = true := by
    have hm := m1
    unfold modelB at hm ⊢
    simp only [Bool.and_eq_true, decide_eq_true_eq, List.all_eq_true] at hm ⊢
    obtain ⟨⟨⟨q1, q2⟩, q3⟩, q4⟩ := hm
    refine ⟨⟨⟨q1, q2⟩, by omega⟩, fun k hk => ?_⟩
    have h4 := q4 k hk
    have h5 := hin k (List.mem_range.1 hk)
    unfold okK okRow at h4 ⊢
    simp only [Bool.and_eq_true] at h4 ⊢
    exact ⟨⟨⟨inB_mk h5, h4.1.1.2⟩, h4.1.2⟩, h4.2⟩
  have hm2 : modAsk zs ws fs nm ps = 0 := by simp [modAsk, hmb, m2, hv1]
  refine ⟨fs, by rw [hfi], trivial, by omega, hmb, by simp [rawI, hm2], fun k hk => ?_⟩
  obtain ⟨g1, g2⟩ := hin k hk
  have hr := rawK_at (zwK ps zs zs.length) ws fs (lipI ps) 5 k hk
  rw [zwK_len] at hr
  have hmp := mom_pos hal m3 m1 hk
  have hn := near_law (f := [a, b, c, d, f].getD k 0) (soundB_bd t0 k hk).1 hlb.1 hmp (hat k hk) g1 hr
  have hub := raw_bd hmb hl1 hal m3 k hk
  exact ⟨g1, g2, hn.2, by omega, hn.1⟩

end Go.Proofs.YtgdadbmhdljcdaaGreatDoor

