/- Several texts of the proofs in one: EqR, OpenU. -/
import Derived.Test.YtgdadbmhdljcdaaGreatDoorGB
import Derived.Test.YtgdadbmhdljcdaaGreatDoorGC
import Derived.Test.YtgdadbmhdljcdaaGreatDoorGD
import Derived.Test.YtgdadbmhdljcdaaGreatDoorGI
/- Two lists of rings: equal. -/
namespace Go.Proofs.YtgdadbmhdljcdaaGreatDoor
set_option linter.unusedVariables false
open Go.RowKit Go.Proofs.Bell Go.BigFrame

def eqT (ps qs : List (Int × Int × Int)) : Bool := decide (ps = qs)
theorem take_step3 {α : Type} {ps qs : List α} {k : Nat} (h : ps.take k = qs.take k) (h1 : k < ps.length) (h2 : k < qs.length) (h3 : ps[k] = qs[k]) : ps.take (k + 1) = qs.take (k + 1) := by
  rw [List.take_succ_eq_append_getElem h1, List.take_succ_eq_append_getElem h2, h, h3]

set_option maxHeartbeats 1600000 in
theorem EqualR_c (v v' : Value) (ps qs : List (Int × Int × Int)) (w : World) (h : Rd w v ps.length (trips ps)) (h' : Rd w v' qs.length (trips qs)) :
    Calls Tryz.prog 134 #[v, v'] w (RetD (.bool (eqT ps qs)) w) := by
  generalize hn : ps.length = n at h
  generalize hm : qs.length = m at h'
  have HN := Lib.hid hn; clear hn
  have HM := Lib.hid hm; clear hm
  obtain ⟨hn, ao, cap, b, off, rfl, hao, hcell⟩ := h.open
  obtain ⟨hn', ao', cap', b', off', rfl, hao', hcell'⟩ := h'.open
  clear h h'
  by_cases hlen : n = m
  · subst hlen
    go_enter Tryz.func134, Tryz.ntmps134
    go_wp2_with fail
    go_loopw [13] (fun i wr => ∃ (k : Nat), k ≤ n ∧ i = .int .i64 k ∧ ps.take k = qs.take k ∧ Dr w wr)
      (fun i _ => n - (intOf i).toNat)
    case atStart => exact ⟨0, Nat.zero_le _, rfl, rfl, Dr.refl _⟩
    case round =>
      obtain ⟨k, hk, rfl, hx, hd⟩ := hrel
      have hb := hd.below
      have HX := Lib.hid hx; clear hx
      by_cases hlt : k < n
      · have hltp : k < ps.length := by rw [HN.out]; exact hlt
        have hltq : k < qs.length := by rw [HM.out]; exact hlt
        have hix := ix (P := Tryz.prog) (T := 24) (cap := cap) Tryz.underlying24 cells_Ring has_Ring hao hlt k rfl
        have hix' := ix (P := Tryz.prog) (T := 24) (cap := cap') Tryz.underlying24 cells_Ring has_Ring hao' hlt k rfl
        have hc1 : wr.cell? ⟨b, off + k * 3, none⟩ = some (.int .i64 ps[k].1) := hcell _ hb _ _ (by omega) (trips_at hltp).1
        have hc2 : wr.cell? ⟨b, off + k * 3 + 1, none⟩ = some (.int .i64 ps[k].2.1) := hcell _ hb _ _ (by omega) (trips_at hltp).2.1
        have hc3 : wr.cell? ⟨b, off + k * 3 + 2, none⟩ = some (.int .i64 ps[k].2.2) := hcell _ hb _ _ (by omega) (trips_at hltp).2.2
        have hd1 : wr.cell? ⟨b', off' + k * 3, none⟩ = some (.int .i64 qs[k].1) := hcell' _ hb _ _ (by omega) (trips_at hltq).1
        have hd2 : wr.cell? ⟨b', off' + k * 3 + 1, none⟩ = some (.int .i64 qs[k].2.1) := hcell' _ hb _ _ (by omega) (trips_at hltq).2.1
        have hd3 : wr.cell? ⟨b', off' + k * 3 + 2, none⟩ = some (.int .i64 qs[k].2.2) := hcell' _ hb _ _ (by omega) (trips_at hltq).2.2
        have hp : ps[k] = qs[k] → ps.take (k + 1) = qs.take (k + 1) := fun h2 => take_step3 HX.out hltp hltq h2
        have hq : ps[k] ≠ qs[k] → eqT ps qs = false := fun h => by
          refine decide_eq_false fun e => h ?_
          subst e; rfl
        have HP := Lib.hid hp; clear hp
        have HQ := Lib.hid hq; clear hq
        clear hcell hcell'
        generalize ps[k] = p at *
        generalize qs[k] = q at *
        obtain ⟨p0, p1, p2⟩ := p
        obtain ⟨q0, q1, q2⟩ := q
        simp only at hc1 hc2 hc3 hd1 hd2 hd3
        by_cases e0 : p0 = q0
        · by_cases e1 : p1 = q1
          · by_cases e2 : p2 = q2
            · subst e0 e1 e2
              go_wp2_with fail
              go_quiet (fail)
              clear hc1 hd1 hc2 hc3 hd2 hd3
              go_wp2
              go_roundw
              case rel => exact ⟨k + 1, by omega, by go_num, HP.out (by first | rfl | trivial), (by first | exact Dr.refl _ | exact Dr.next (by assumption) _ | assumption | exact ⟨_, rfl⟩ | exact ⟨_, World.drewN_drewN _ _ _⟩)⟩
              case measure => simp [intOf]; omega
            · go_wp2_with fail
              go_quiet (fail)
              go_wp2
              go_returns
              exact RetD.mk (bool_eq (HQ.out (by simp [e2])).symm) (by first | exact Dr.refl _ | exact Dr.next (by assumption) _ | assumption | exact ⟨_, rfl⟩ | exact ⟨_, World.drewN_drewN _ _ _⟩)
          · go_wp2_with fail
            go_quiet (fail)
            go_wp2
            go_returns
            exact RetD.mk (bool_eq (HQ.out (by simp [e1])).symm) (by first | exact Dr.refl _ | exact Dr.next (by assumption) _ | assumption | exact ⟨_, rfl⟩ | exact ⟨_, World.drewN_drewN _ _ _⟩)
        · go_wp2_with fail
          go_quiet (fail)
          go_wp2
          go_returns
          exact RetD.mk (bool_eq (HQ.out (by simp [e0])).symm) (by first | exact Dr.refl _ | exact Dr.next (by assumption) _ | assumption | exact ⟨_, rfl⟩ | exact ⟨_, World.drewN_drewN _ _ _⟩)
      · obtain rfl : k = n := by omega
        go_wp2
        go_returns
        refine RetD.mk (bool_eq ?_) (by first | exact Dr.refl _ | exact Dr.next (by assumption) _ | assumption | exact ⟨_, rfl⟩ | exact ⟨_, World.drewN_drewN _ _ _⟩)
        have e := HX.out
        rw [List.take_of_length_le (by rw [HN.out]; exact Nat.le_refl _), List.take_of_length_le (by rw [HM.out]; exact Nat.le_refl _)] at e
        exact (decide_eq_true e).symm
  · go_enter Tryz.func134, Tryz.ntmps134
    go_wp2
    go_returns
    refine RetD.mk (bool_eq (decide_eq_false ?_).symm) (Dr.refl _)
    rintro rfl
    exact hlen (HN.out.symm.trans HM.out)

set_option maxHeartbeats 1600000 in
theorem SameProfile_c (nm nm' : ByteArray) (hnn : (nm.toList == nm'.toList) = true) (v v' : Value) (ps qs : List (Int × Int × Int)) (w : World) (h : Rd w v ps.length (trips ps)) (h' : Rd w v' qs.length (trips qs)) :
    Calls Tryz.prog 100 #[.agg #[.string nm, v], .agg #[.string nm', v']] w (RetB (.bool (eqT ps qs)) w) := by
  have he := fun w' (hb : Below w.heap.size w w') => EqualR_c v v' ps qs w' (h.later hb) (h'.later hb)
  have HE := Lib.hid he; clear he
  clear h h'
  go_enter Tryz.func100, Tryz.ntmps100
  have b0 : Below w.heap.size w w := Below.refl _ _
  have z0 : w.heap.size ≤ w.heap.size := Nat.le_refl _
  go_wp2_with fail
  refine (HE.out _ (by go_grown)).mono ?_
  rintro _ w1 ⟨rfl, d1⟩
  have r1 := Dr.below d1; clear d1
  have s1 : Below w.heap.size w w1 := Below.trans (by go_grown) (r1.mono (by simp; try omega))
  have b1 := b0.trans (s1.mono z0)
  have z1 := b1.size
  have y1 := s1.size
  have c0_0_1 := below_cell r1 (p := ⟨w.heap.size, 0, none⟩) (v := .string nm) (by simp [go_sem])
  have c0_1_1 := below_cell r1 (p := ⟨w.heap.size, 1, none⟩) (v := v) (by simp [go_sem])
  have c1_0_1 := below_cell r1 (p := ⟨w.heap.size + 1, 0, none⟩) (v := .string nm') (by simp [go_sem])
  have c1_1_1 := below_cell r1 (p := ⟨w.heap.size + 1, 1, none⟩) (v := v') (by simp [go_sem])
  clear r1
  go_wp2
  go_returns
  exact RetB.mk (rfl) b1

set_option maxHeartbeats 3200000 in
theorem l05Same_c (g g' : Nat) (nm nm' : ByteArray) (hnn : (nm.toList == nm'.toList) = true) (v v' : Value) (ps qs : List (Int × Int × Int)) (w : World) (c0 : w.cell? ⟨g, 0, none⟩ = some (.string nm)) (c1 : w.cell? ⟨g, 1, none⟩ = some v) (d0 : w.cell? ⟨g', 0, none⟩ = some (.string nm')) (d1 : w.cell? ⟨g', 1, none⟩ = some v')
    (h : Rd w v ps.length (trips ps)) (h' : Rd w v' qs.length (trips qs)) (hlen : ps.length = qs.length) :
    Calls Tryz.prog 49 #[.pointer (some ⟨g, 0, none⟩), .pointer (some ⟨g', 0, none⟩)] w (RetD (.bool (eqT ps qs)) w) := by
  rw [← hlen] at h'
  generalize hn : ps.length = n at *
  have HN := Lib.hid hn; clear hn
  have HM := Lib.hid hlen; clear hlen
  obtain ⟨hn, ao, cap, b, off, rfl, hao, hcell⟩ := h.open
  obtain ⟨hn', ao', cap', b', off', rfl, hao', hcell'⟩ := h'.open
  clear h h'
  have hcc : ∀ wr, Below w.heap.size w wr → wr.cell? ⟨g, 1, none⟩ = some (.slice ao n cap) ∧ wr.cell? ⟨g', 1, none⟩ = some (.slice ao' n cap') := fun wr hb => ⟨below_cell hb c1, below_cell hb d1⟩
  have HCC := Lib.hid hcc; clear hcc
  go_enter Tryz.func49, Tryz.ntmps49
  go_wp2_with fail
  go_quiet (fail)
  go_wp2_with fail
  go_loopw [5] (fun i wr => ∃ (k : Nat), k ≤ n ∧ i = .int .i64 k ∧ ps.take k = qs.take k ∧ Dr w wr) (fun i _ => n - (intOf i).toNat)
  case atStart => exact ⟨0, Nat.zero_le _, rfl, rfl, (by first | exact Dr.refl _ | exact Dr.next (by assumption) _ | assumption | exact ⟨_, rfl⟩ | exact ⟨_, World.drewN_drewN _ _ _⟩)⟩
  case round =>
    obtain ⟨k, hk, rfl, hx, hd⟩ := hrel
    have hb := hd.below
    obtain ⟨k1, k2⟩ := HCC.out wr hb
    have HX := Lib.hid hx; clear hx
    by_cases hlt : k < n
    · have hltp : k < ps.length := by rw [HN.out]; exact hlt
      have hltq : k < qs.length := by rw [← HM.out]; exact hlt
      have hix := ix (P := Tryz.prog) (T := 24) (cap := cap) Tryz.underlying24 cells_Ring has_Ring hao hlt k rfl
      have hix' := ix (P := Tryz.prog) (T := 24) (cap := cap') Tryz.underlying24 cells_Ring has_Ring hao' hlt k rfl
      have hc1 : wr.cell? ⟨b, off + k * 3, none⟩ = some (.int .i64 ps[k].1) := hcell _ hb _ _ (by omega) (trips_at hltp).1
      have hc2 : wr.cell? ⟨b, off + k * 3 + 1, none⟩ = some (.int .i64 ps[k].2.1) := hcell _ hb _ _ (by omega) (trips_at hltp).2.1
      have hc3 : wr.cell? ⟨b, off + k * 3 + 2, none⟩ = some (.int .i64 ps[k].2.2) := hcell _ hb _ _ (by omega) (trips_at hltp).2.2
      have hd1 : wr.cell? ⟨b', off' + k * 3, none⟩ = some (.int .i64 qs[k].1) := hcell' _ hb _ _ (by omega) (trips_at hltq).1
      have hd2 : wr.cell? ⟨b', off' + k * 3 + 1, none⟩ = some (.int .i64 qs[k].2.1) := hcell' _ hb _ _ (by omega) (trips_at hltq).2.1
      have hd3 : wr.cell? ⟨b', off' + k * 3 + 2, none⟩ = some (.int .i64 qs[k].2.2) := hcell' _ hb _ _ (by omega) (trips_at hltq).2.2
      have hp : ps[k] = qs[k] → ps.take (k + 1) = qs.take (k + 1) := fun h2 => take_step3 HX.out hltp hltq h2
      have hq : ps[k] ≠ qs[k] → eqT ps qs = false := fun h => by
        refine decide_eq_false fun e => h ?_
        subst e; rfl
      have HP := Lib.hid hp; clear hp
      have HQ := Lib.hid hq; clear hq
      clear hcell hcell'
      generalize ps[k] = p at *
      generalize qs[k] = q at *
      obtain ⟨p0, p1, p2⟩ := p
      obtain ⟨q0, q1, q2⟩ := q
      simp only at hc1 hc2 hc3 hd1 hd2 hd3
      by_cases e0 : p0 = q0
      · by_cases e1 : p1 = q1
        · by_cases e2 : p2 = q2
          · subst e0 e1 e2
            go_wp2_with fail
            go_quiet (fail)
            clear hc1 hd1 hc2 hc3 hd2 hd3
            go_wp2
            go_roundw
            case rel => exact ⟨k + 1, by omega, by go_num, HP.out (by first | rfl | trivial), (by first | exact Dr.refl _ | exact Dr.next (by assumption) _ | assumption | exact ⟨_, rfl⟩ | exact ⟨_, World.drewN_drewN _ _ _⟩)⟩
            case measure => simp [intOf]; omega
          · go_wp2_with fail
            go_quiet (fail)
            go_wp2
            go_returns
            exact RetD.mk (bool_eq (HQ.out (by simp [e2])).symm) (by first | exact Dr.refl _ | exact Dr.next (by assumption) _ | assumption | exact ⟨_, rfl⟩ | exact ⟨_, World.drewN_drewN _ _ _⟩)
        · go_wp2_with fail
          go_quiet (fail)
          go_wp2
          go_returns
          exact RetD.mk (bool_eq (HQ.out (by simp [e1])).symm) (by first | exact Dr.refl _ | exact Dr.next (by assumption) _ | assumption | exact ⟨_, rfl⟩ | exact ⟨_, World.drewN_drewN _ _ _⟩)
      · go_wp2_with fail
        go_quiet (fail)
        go_wp2
        go_returns
        exact RetD.mk (bool_eq (HQ.out (by simp [e0])).symm) (by first | exact Dr.refl _ | exact Dr.next (by assumption) _ | assumption | exact ⟨_, rfl⟩ | exact ⟨_, World.drewN_drewN _ _ _⟩)
    · obtain rfl : k = n := by omega
      go_wp2
      go_returns
      refine RetD.mk (bool_eq ?_) (by first | exact Dr.refl _ | exact Dr.next (by assumption) _ | assumption | exact ⟨_, rfl⟩ | exact ⟨_, World.drewN_drewN _ _ _⟩)
      have e := HX.out
      rw [List.take_of_length_le (by rw [HN.out]; exact Nat.le_refl _), List.take_of_length_le (by rw [← HM.out]; exact Nat.le_refl _)] at e
      exact (decide_eq_true e).symm

end Go.Proofs.YtgdadbmhdljcdaaGreatDoor

/- Bytes as an argument of a law; two equal profiles. -/
namespace Go.Proofs.YtgdadbmhdljcdaaGreatDoor
set_option linter.unusedVariables false
open Go.RowKit Go.Proofs.Bell Go.BigFrame

theorem bytes_flat (zs : List Int) : zs.flatMap (fun z => [Value.int .u8 z]) = bytesV zs := by
  unfold bytesV
  induction zs with
  | nil => rfl
  | cons z zs ih => rw [List.flatMap_cons, ih]; rfl
theorem byte_of_wf {z : Int} (h : (Lit.int .u8 z).wf = true) : Byte z := by
  have h1 : IntKind.u8.min = 0 := rfl
  have h2 : IntKind.u8.max = 255 := rfl
  simp only [Lit.wf, Bool.and_eq_true, decide_eq_true_eq] at h
  unfold Byte
  omega
set_option maxRecDepth 100000 in
theorem open_uint8S {H : Type} {enc : TypeId × Value → H} {w : World} {v : Value} {d : DataW H} {p : List MemPlace} {r : Reach} {b0 : Nat}
    (hv : Value.okWide Tryz.prog w r b0 22 v) (h : DataW.Trod enc Tryz.prog w 0 (fun _ => true) true 22 v d p) :
    ∃ zs : List Int, Rd w v zs.length (bytesV zs) ∧ ∀ z ∈ zs, Byte z := by
  obtain ⟨zs, h1, h2⟩ := open_elems (s := 1) (cells := fun z : Int => [Value.int .u8 z]) (Q := Byte) (fun _ => rfl) (by omega) Tryz.underlying22 (by kernel_rfl) (fun n cs x hx _ => by
    obtain ⟨z, rfl, _, hw⟩ := DataW.trod_int Tryz.underlying5 hx
    refine ⟨z, rfl, ?_⟩

    exact byte_of_wf hw) hv h
  exact ⟨zs, by rwa [bytes_flat] at h1, h2⟩

theorem toList_refl (nm : ByteArray) : (nm.toList == nm.toList) = true := by simp
set_option maxHeartbeats 800000 in
theorem specSame_c (nm : ByteArray) (v v' : Value) (ps : List (Int × Int × Int)) (w : World) (h : Rd w v ps.length (trips ps)) (h' : Rd w v' ps.length (trips ps)) :
    Calls Tryz.prog 11 #[.agg #[.string nm, v], .agg #[.string nm, v']] w (RetB (.bool true) w) := by
  have hs := fun w' g g' c0 c1 d0 d1 (hx : Below w.heap.size w w') => l05Same_c g g' nm nm (toList_refl nm) v v' ps ps w' c0 c1 d0 d1 (h.later hx) (h'.later hx) rfl
  rw [show eqT ps ps = true by simp [eqT]] at hs
  have HS := Lib.hid hs; clear hs
  obtain ⟨_, ao, cap, _, _, rfl, _, _⟩ := h.open
  obtain ⟨_, ao', cap', _, _, rfl, _, _⟩ := h'.open
  clear h h'
  go_enter Tryz.func11, Tryz.ntmps11
  go_wp2_with fail
  refine (HS.out _ w.heap.size (w.heap.size + 1) (by simp [go_sem]) (by simp [go_sem]) (by simp [go_sem]) (by simp [go_sem]) (by go_grown)).mono ?_
  rintro _ w1 ⟨rfl, n, rfl⟩
  go_wp2
  go_returns
  exact RetB.mk rfl (below_drewN (((Below.refl _ _).alloc (Nat.le_refl _) _).alloc (by simp) _) _)

end Go.Proofs.YtgdadbmhdljcdaaGreatDoor

