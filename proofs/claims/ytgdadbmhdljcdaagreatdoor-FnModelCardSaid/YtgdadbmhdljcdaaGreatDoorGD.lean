/- Several texts of the proofs in one: Valid, Valid2, Best, Best2, Best3, At, At2. -/
import Derived.Test.YtgdadbmhdljcdaaGreatDoorGB
import Derived.Test.YtgdadbmhdljcdaaGreatDoorGC
import Derived.Test.YtgdadbmhdljcdaaGreatDoorRing
import Derived.BigRegion
/- Profiles: joined rings, heights, validity. -/
namespace Go.Proofs.YtgdadbmhdljcdaaGreatDoor
set_option linter.unusedVariables false
open Go.RowKit Go.Proofs.Bell Go.BigFrame

def rg (rs : List (Int × Int × Int)) (k : Nat) : Int × Int × Int := rs.getD k (0, 0, 0)
theorem rg_eq {rs : List (Int × Int × Int)} {k : Nat} (h : k < rs.length) : rg rs k = rs[k] := by simp [rg, List.getD, h]
def ringT (p : Int × Int × Int) : Bool := ringB p.1 p.2.1 p.2.2
def joinB (p q : Int × Int × Int) : Bool := decide (p.2.1 < q.1) && decide (q.2.1 < p.1)
def joinAt (rs : List (Int × Int × Int)) (k : Nat) : Bool := k == 0 || joinB (rg rs (k - 1)) (rg rs k)
def okAt (rs : List (Int × Int × Int)) (k : Nat) : Bool := ringT (rg rs k) && joinAt rs k
def heightI (rs : List (Int × Int × Int)) : Int := (rs.map (·.2.2)).sum
def profB (nm : ByteArray) (rs : List (Int × Int × Int)) : Bool :=
  nameB nm && decide (1 ≤ rs.length) && decide (rs.length ≤ 32) && rs.all ringT && (List.range rs.length).all (joinAt rs) && decide (heightI rs ≤ 300000)

theorem all_rg (rs : List (Int × Int × Int)) (f : Int × Int × Int → Bool) : (List.range rs.length).all (fun k => f (rg rs k)) = rs.all f := by
  rw [Bool.eq_iff_iff, List.all_eq_true, List.all_eq_true]
  constructor
  · intro h x hx
    obtain ⟨k, hk, rfl⟩ := List.mem_iff_getElem.1 hx
    have := h k (List.mem_range.2 hk)
    rwa [rg_eq hk] at this
  · intro h k hk
    have hk := List.mem_range.1 hk
    rw [rg_eq hk]
    exact h _ (List.getElem_mem hk)
theorem all_and {α : Type} (xs : List α) (f g : α → Bool) : xs.all (fun k => f k && g k) = (xs.all f && xs.all g) := by
  induction xs with
  | nil => rfl
  | cons x xs ih => simp only [List.all_cons, ih]; cases f x <;> cases g x <;> simp
theorem all_ok (rs : List (Int × Int × Int)) : (List.range rs.length).all (okAt rs) = (rs.all ringT && (List.range rs.length).all (joinAt rs)) := by
  rw [← all_rg rs ringT, ← all_and]; rfl

theorem heightI_snoc (ps : List (Int × Int × Int)) {k : Nat} (h : k < ps.length) : heightI (ps.take (k + 1)) = heightI (ps.take k) + ps[k].2.2 := by
  show ((ps.take (k + 1)).map (·.2.2)).sum = ((ps.take k).map (·.2.2)).sum + _
  rw [List.take_succ_eq_append_getElem h, List.map_append, List.sum_append]; simp
theorem ringT_t {p : Int × Int × Int} (h : ringT p = true) : 500 ≤ p.1 ∧ p.1 ≤ 150000 ∧ 0 ≤ p.2.1 ∧ p.2.1 ≤ p.1 - 100 ∧ 10 ≤ p.2.2 ∧ p.2.2 ≤ 300000 := ringB_t h
theorem height_bd {ps : List (Int × Int × Int)} (h : ps.all ringT = true) : ∀ k, 0 ≤ heightI (ps.take k) ∧ heightI (ps.take k) ≤ 300000 * k := by
  intro k
  induction k with
  | zero => simp [heightI]
  | succ k ih =>
    rcases Nat.lt_or_ge k ps.length with hk | hk
    · rw [heightI_snoc ps hk]
      have h1 := ringT_t (List.all_eq_true.1 h ps[k] (List.getElem_mem hk))
      omega
    · rw [List.take_of_length_le (by omega)] at ih ⊢; omega

set_option maxHeartbeats 400000 in
theorem l05Joined_c (p q : Int × Int × Int) (b o b' o' : Nat) (w : World) (p0 : w.cell? ⟨b, o, none⟩ = some (.int .i64 p.1)) (p1 : w.cell? ⟨b, o + 1, none⟩ = some (.int .i64 p.2.1))
    (q0 : w.cell? ⟨b', o', none⟩ = some (.int .i64 q.1)) (q1 : w.cell? ⟨b', o' + 1, none⟩ = some (.int .i64 q.2.1)) :
    Calls Tryz.prog 182 #[.pointer (some ⟨b, o, none⟩), .pointer (some ⟨b', o', none⟩)] w (RetD (.bool (joinB p q)) w) := by
  obtain ⟨x0, x1, x2⟩ := p
  obtain ⟨y0, y1, y2⟩ := q
  cases h1 : decide (x1 < y0) <;>
  · go_enter Tryz.func182, Tryz.ntmps182
    go_wp2_with fail
    go_quiet (fail)
    go_wp2
    go_returns
    exact RetD.mk (bool_eq (by simp [joinB, h1])) ⟨_, rfl⟩

set_option maxHeartbeats 800000 in
theorem l05Height_c (g : Nat) (nm : ByteArray) (sv : Value) (ps : List (Int × Int × Int)) (w : World) (c1 : w.cell? ⟨g, 1, none⟩ = some sv) (h : Rd w sv ps.length (trips ps)) (ht : ps.all ringT = true) (hl : ps.length ≤ 32) :
    Calls Tryz.prog 183 #[.pointer (some ⟨g, 0, none⟩)] w (RetS (.int .i64 (heightI ps)) w) := by
  have hbd := height_bd ht
  have HB := Lib.hid hbd; clear hbd
  generalize hn : ps.length = n at h hl
  have HN := Lib.hid hn; clear hn
  obtain ⟨hn, ao, cap, b, off, rfl, hao, hcell⟩ := h.open
  clear h
  go_enter Tryz.func183, Tryz.ntmps183
  go_wp2_with fail
  go_loop [4, 3] (fun i s => ∃ (k : Nat), k ≤ n ∧ i = .int .i64 k ∧ s = .int .i64 (heightI (ps.take k))) (fun i _ => n - (intOf i).toNat)
  case atStart => exact ⟨0, Nat.zero_le _, rfl, rfl⟩
  case round =>
    obtain ⟨k, hk, rfl, rfl⟩ := hrel
    have hb1 := HB.out k
    by_cases hlt : k < n
    · have hltp : k < ps.length := by rw [HN.out]; exact hlt
      have hb2 := HB.out (k + 1)
      have hix := ix (P := Tryz.prog) (T := 24) (cap := cap) Tryz.underlying24 cells_Ring has_Ring hao hlt k rfl
      have hc3 : w.cell? ⟨b, off + k * 3 + 2, none⟩ = some (.int .i64 ps[k].2.2) := hcell _ (Below.refl _ _) _ _ (by omega) (trips_at hltp).2.2
      have hs := heightI_snoc ps hltp
      rw [hs] at hb2
      have HS := Lib.hid hs; clear hs
      clear hcell
      generalize ps[k].2.2 = z at *
      generalize heightI (ps.take k) = s at *
      go_wp2
      go_round
      case rel => exact ⟨k + 1, by omega, by go_num, by rw [HS.out]⟩
      case measure => simp [intOf]; omega
    · obtain rfl : k = n := by omega
      go_wp2
      go_returns
      refine RetS.mk (int_eq ?_)
      rw [List.take_of_length_le (by rw [HN.out]; exact Nat.le_refl _)]

theorem l05Ring_is {o i h : Int} {x : Bool} {b off : Nat} (w : World) (hx : ringB o i h = x) (h0 : w.cell? ⟨b, off, none⟩ = some (.int .i64 o)) (h1 : w.cell? ⟨b, off + 1, none⟩ = some (.int .i64 i)) (h2 : w.cell? ⟨b, off + 2, none⟩ = some (.int .i64 h)) :
    Calls Tryz.prog 181 #[.pointer (some ⟨b, off, none⟩)] w (RetD (.bool x) w) := hx ▸ l05Ring_c o i h b off w h0 h1 h2
theorem l05Joined_is {p q : Int × Int × Int} {x : Bool} {b o b' o' : Nat} (w : World) (hx : joinB p q = x) (p0 : w.cell? ⟨b, o, none⟩ = some (.int .i64 p.1)) (p1 : w.cell? ⟨b, o + 1, none⟩ = some (.int .i64 p.2.1))
    (q0 : w.cell? ⟨b', o', none⟩ = some (.int .i64 q.1)) (q1 : w.cell? ⟨b', o' + 1, none⟩ = some (.int .i64 q.2.1)) :
    Calls Tryz.prog 182 #[.pointer (some ⟨b, o, none⟩), .pointer (some ⟨b', o', none⟩)] w (RetD (.bool x) w) := hx ▸ l05Joined_c p q b o b' o' w p0 p1 q0 q1

set_option maxHeartbeats 3200000 in
theorem l05Ok_c (g : Nat) (nm : ByteArray) (sv : Value) (ps : List (Int × Int × Int)) (w : World) (hg : g < w.heap.size) (hnm : nm.size ≤ maxLen) (c0 : w.cell? ⟨g, 0, none⟩ = some (.string nm)) (c1 : w.cell? ⟨g, 1, none⟩ = some sv) (h : Rd w sv ps.length (trips ps)) :
    Calls Tryz.prog 149 #[.pointer (some ⟨g, 0, none⟩)] w (RetD (.bool (profB nm ps)) w) := by
  have hn := l01Name_c nm w hnm
  have HNM := Lib.hid hn; clear hn
  unfold maxLen at hnm
  obtain ⟨hn, ao, cap, b, off, rfl, hao, hcell⟩ := h.open
  cases t0 : nameB nm <;> rw [t0] at HNM
  · go_enter Tryz.func149, Tryz.ntmps149
    go_wp2_with (go_at_call 180; refine HNM.out.mono ?_; rintro _ _ ⟨rfl, rfl⟩)
    go_returns
    exact RetD.mk (bool_eq (by simp [profB, t0])) ⟨0, rfl⟩
  · by_cases hl1 : 1 ≤ ps.length
    · by_cases hl2 : ps.length ≤ 32
      · have hh := fun (ht : ps.all ringT = true) w' (hb : Below w.heap.size w w') => l05Height_c g nm _ ps w' (below_cell hb c1) (h.later hb) ht hl2
        have HH := Lib.hid hh; clear hh
        have hpf : profB nm ps = ((List.range ps.length).all (okAt ps) && decide (heightI ps ≤ 300000)) := by
          rw [all_ok]; simp [profB, t0, hl1, hl2]
        have HPF := Lib.hid hpf; clear hpf
        have HRD := Lib.hid h; clear h
        generalize hn' : ps.length = n at *
        have HN := Lib.hid hn'; clear hn'
        go_enter Tryz.func149, Tryz.ntmps149
        go_wp2_with (go_at_call 180; refine HNM.out.mono ?_; rintro _ _ ⟨rfl, rfl⟩)
        go_loopw [3] (fun i wr => ∃ (k : Nat), k ≤ n ∧ i = .int .i64 k ∧ (List.range k).all (okAt ps) = true ∧ Dr w wr) (fun i _ => n - (intOf i).toNat)
        case atStart => exact ⟨0, Nat.zero_le _, rfl, rfl, Dr.refl _⟩
        case round =>
          obtain ⟨k, hk, rfl, hx, hd⟩ := hrel
          have hb := hd.below
          have HX := Lib.hid hx; clear hx
          have k0 := below_cell hb c0
          have k1 := below_cell hb c1
          by_cases hlt : k < n
          · have hltp : k < ps.length := by rw [HN.out]; exact hlt
            have hix := ix (P := Tryz.prog) (T := 24) (cap := cap) Tryz.underlying24 cells_Ring has_Ring hao hlt k rfl
            have hc1 : wr.cell? ⟨b, off + k * 3, none⟩ = some (.int .i64 (rg ps k).1) := by rw [rg_eq hltp]; exact hcell _ hb _ _ (by omega) (trips_at hltp).1
            have hc2 : wr.cell? ⟨b, off + k * 3 + 1, none⟩ = some (.int .i64 (rg ps k).2.1) := by rw [rg_eq hltp]; exact hcell _ hb _ _ (by omega) (trips_at hltp).2.1
            have hc3 : wr.cell? ⟨b, off + k * 3 + 2, none⟩ = some (.int .i64 (rg ps k).2.2) := by rw [rg_eq hltp]; exact hcell _ hb _ _ (by omega) (trips_at hltp).2.2
            have hp : okAt ps k = true → (List.range (k + 1)).all (okAt ps) = true := fun h => range_step HX.out h
            have hq : okAt ps k = false → profB nm ps = false := fun h => by rw [HPF.out, range_false hlt h]; rfl
            have HP := Lib.hid hp; clear hp
            have HQ := Lib.hid hq; clear hq
            rcases Nat.eq_zero_or_pos k with h0 | h0
            · have hr : okAt ps k = ringT (rg ps k) := by unfold okAt joinAt; simp [h0]
              have HR := Lib.hid hr; clear hr
              have hkd : decide (0 < k) = false := by simp; omega
              have H0 := Lib.hid h0; clear h0
              clear hcell
              generalize rg ps k = z at *
              cases t1 : ringB z.1 z.2.1 z.2.2
              · go_wp2_with fail
                go_quiet ((first | (go_at_call 181; exact quietD (l05Ring_is _ t1 (below_cell (below_drewN (Below.refl _ _) _) hc1) (below_cell (below_drewN (Below.refl _ _) _) hc2) (below_cell (below_drewN (Below.refl _ _) _) hc3))) | (go_at_call 182; exact quietD (l05Joined_is _ t2 (below_cell (below_drewN (Below.refl _ _) _) hd1) (below_cell (below_drewN (Below.refl _ _) _) hd2) (below_cell (below_drewN (Below.refl _ _) _) hc1) (below_cell (below_drewN (Below.refl _ _) _) hc2)))))
                clear hc1 hc2 hc3 hkd k0 k1
                go_wp2
                go_returns
                exact RetD.mk (bool_eq (HQ.out (HR.out.trans t1)).symm) (by first | exact Dr.refl _ | exact Dr.next (by assumption) _ | assumption | exact ⟨_, rfl⟩ | exact ⟨_, World.drewN_drewN _ _ _⟩)
              · go_wp2_with fail
                go_quiet ((first | (go_at_call 181; exact quietD (l05Ring_is _ t1 (below_cell (below_drewN (Below.refl _ _) _) hc1) (below_cell (below_drewN (Below.refl _ _) _) hc2) (below_cell (below_drewN (Below.refl _ _) _) hc3))) | (go_at_call 182; exact quietD (l05Joined_is _ t2 (below_cell (below_drewN (Below.refl _ _) _) hd1) (below_cell (below_drewN (Below.refl _ _) _) hd2) (below_cell (below_drewN (Below.refl _ _) _) hc1) (below_cell (below_drewN (Below.refl _ _) _) hc2)))))
                clear hc1 hc2 hc3 hkd k0 k1
                go_wp2
                go_roundw
                case rel => exact ⟨k + 1, by omega, by go_num, HP.out (HR.out.trans t1), (by first | exact Dr.refl _ | exact Dr.next (by assumption) _ | assumption | exact ⟨_, rfl⟩ | exact ⟨_, World.drewN_drewN _ _ _⟩)⟩
                case measure => simp [intOf]; omega
            · have hk1 : k - 1 < n := by omega
              have hltm : k - 1 < ps.length := by omega
              have hix2 := ix (P := Tryz.prog) (T := 24) (cap := cap) Tryz.underlying24 cells_Ring has_Ring hao hk1 ((k : Int) - 1) (by omega)
              have hd1 : wr.cell? ⟨b, off + (k - 1) * 3, none⟩ = some (.int .i64 (rg ps (k - 1)).1) := by rw [rg_eq hltm]; exact hcell _ hb _ _ (by omega) (trips_at hltm).1
              have hd2 : wr.cell? ⟨b, off + (k - 1) * 3 + 1, none⟩ = some (.int .i64 (rg ps (k - 1)).2.1) := by rw [rg_eq hltm]; exact hcell _ hb _ _ (by omega) (trips_at hltm).2.1
              have hr : okAt ps k = (ringT (rg ps k) && joinB (rg ps (k - 1)) (rg ps k)) := by
                have : (k == 0) = false := by simp; omega
                unfold okAt joinAt; rw [this, Bool.false_or]
              have HR := Lib.hid hr; clear hr
              clear hcell
              have hkd : decide (0 < k) = true := by simp; omega
              have hw1 : IntKind.i64.wrap ((k : Int) - 1) = (k : Int) - 1 := IntWalk.i64_in _ (by omega)
              generalize rg ps (k - 1) = y at *
              generalize rg ps k = z at *
              cases t1 : ringB z.1 z.2.1 z.2.2
              · go_wp2_with fail
                go_quiet ((first | (go_at_call 181; exact quietD (l05Ring_is _ t1 (below_cell (below_drewN (Below.refl _ _) _) hc1) (below_cell (below_drewN (Below.refl _ _) _) hc2) (below_cell (below_drewN (Below.refl _ _) _) hc3))) | (go_at_call 182; exact quietD (l05Joined_is _ t2 (below_cell (below_drewN (Below.refl _ _) _) hd1) (below_cell (below_drewN (Below.refl _ _) _) hd2) (below_cell (below_drewN (Below.refl _ _) _) hc1) (below_cell (below_drewN (Below.refl _ _) _) hc2)))))
                clear hc1 hc2 hc3 hd1 hd2 hkd hw1 k0 k1
                go_wp2
                go_returns
                exact RetD.mk (bool_eq (HQ.out (by rw [HR.out]; show (ringB z.1 z.2.1 z.2.2 && _) = _; rw [t1]; rfl)).symm) (by first | exact Dr.refl _ | exact Dr.next (by assumption) _ | assumption | exact ⟨_, rfl⟩ | exact ⟨_, World.drewN_drewN _ _ _⟩)
              · cases t2 : joinB y z
                · go_wp2_with fail
                  go_quiet ((first | (go_at_call 181; exact quietD (l05Ring_is _ t1 (below_cell (below_drewN (Below.refl _ _) _) hc1) (below_cell (below_drewN (Below.refl _ _) _) hc2) (below_cell (below_drewN (Below.refl _ _) _) hc3))) | (go_at_call 182; exact quietD (l05Joined_is _ t2 (below_cell (below_drewN (Below.refl _ _) _) hd1) (below_cell (below_drewN (Below.refl _ _) _) hd2) (below_cell (below_drewN (Below.refl _ _) _) hc1) (below_cell (below_drewN (Below.refl _ _) _) hc2)))))
                  clear hc1 hc2 hc3 hd1 hd2 hkd hw1 k0 k1
                  go_wp2
                  go_returns
                  exact RetD.mk (bool_eq (HQ.out (by rw [HR.out, t2]; simp)).symm) (by first | exact Dr.refl _ | exact Dr.next (by assumption) _ | assumption | exact ⟨_, rfl⟩ | exact ⟨_, World.drewN_drewN _ _ _⟩)
                · go_wp2_with fail
                  go_quiet ((first | (go_at_call 181; exact quietD (l05Ring_is _ t1 (below_cell (below_drewN (Below.refl _ _) _) hc1) (below_cell (below_drewN (Below.refl _ _) _) hc2) (below_cell (below_drewN (Below.refl _ _) _) hc3))) | (go_at_call 182; exact quietD (l05Joined_is _ t2 (below_cell (below_drewN (Below.refl _ _) _) hd1) (below_cell (below_drewN (Below.refl _ _) _) hd2) (below_cell (below_drewN (Below.refl _ _) _) hc1) (below_cell (below_drewN (Below.refl _ _) _) hc2)))))
                  clear hc1 hc2 hc3 hd1 hd2 hkd hw1 k0 k1
                  go_wp2
                  go_roundw
                  case rel => exact ⟨k + 1, by omega, by go_num, HP.out (by rw [HR.out, t2]; show (ringB z.1 z.2.1 z.2.2 && _) = _; rw [t1]; rfl), (by first | exact Dr.refl _ | exact Dr.next (by assumption) _ | assumption | exact ⟨_, rfl⟩ | exact ⟨_, World.drewN_drewN _ _ _⟩)⟩
                  case measure => simp [intOf]; omega
          · obtain rfl : k = n := by omega
            have e := HX.out
            have ht : ps.all ringT = true := by
              rw [← HN.out, all_ok, Bool.and_eq_true] at e
              exact e.1
            have hh := HH.out ht wr hb
            have HHH := Lib.hid hh; clear hh
            have hv : profB nm ps = decide (heightI ps ≤ 300000) := by rw [HPF.out, e]; simp
            have HV := Lib.hid hv; clear hv
            clear e
            go_wp2_with (go_at_call 183; refine HHH.out.mono ?_; rintro _ _ ⟨rfl, rfl⟩)
            go_returns
            exact RetD.mk (bool_eq HV.out.symm) (by first | exact Dr.refl _ | exact Dr.next (by assumption) _ | assumption | exact ⟨_, rfl⟩ | exact ⟨_, World.drewN_drewN _ _ _⟩)
      · go_enter Tryz.func149, Tryz.ntmps149
        go_wp2_with (go_at_call 180; refine HNM.out.mono ?_; rintro _ _ ⟨rfl, rfl⟩)
        go_returns
        exact RetD.mk (bool_eq (by simp [profB, hl2])) ⟨0, rfl⟩
    · go_enter Tryz.func149, Tryz.ntmps149
      go_wp2_with (go_at_call 180; refine HNM.out.mono ?_; rintro _ _ ⟨rfl, rfl⟩)
      go_returns
      exact RetD.mk (bool_eq (by simp [profB, hl1])) ⟨0, rfl⟩

end Go.Proofs.YtgdadbmhdljcdaaGreatDoor

/- The program's ValidProfile. -/
namespace Go.Proofs.YtgdadbmhdljcdaaGreatDoor
set_option linter.unusedVariables false
open Go.RowKit Go.Proofs.Bell Go.BigFrame

set_option maxHeartbeats 1600000 in
theorem height_c (nm : ByteArray) (sv : Value) (ps : List (Int × Int × Int)) (w : World) (h : Rd w sv ps.length (trips ps)) (ht : ps.all ringT = true) (hl : ps.length ≤ 32) :
    Calls Tryz.prog 48 #[.agg #[.string nm, sv]] w (RetB (.int .i64 (heightI ps)) w) := by
  have hbd := height_bd ht
  have HB := Lib.hid hbd; clear hbd
  generalize hn : ps.length = n at h hl
  have HN := Lib.hid hn; clear hn
  obtain ⟨hn, ao, cap, b, off, rfl, hao, hcell⟩ := h.open
  clear h
  go_enter Tryz.func48, Tryz.ntmps48
  go_wp2_with fail
  go_loopw [9, 3] (fun i s wr => ∃ (k : Nat), k ≤ n ∧ i = .int .i64 k ∧ s = .int .i64 (heightI (ps.take k)) ∧ Below w.heap.size w wr) (fun i _ _ => n - (intOf i).toNat)
  case atStart => exact ⟨0, Nat.zero_le _, rfl, rfl, by go_grown⟩
  case round =>
    obtain ⟨k, hk, rfl, rfl, hb⟩ := hrel
    have hb1 := HB.out k
    by_cases hlt : k < n
    · have hltp : k < ps.length := by rw [HN.out]; exact hlt
      have hb2 := HB.out (k + 1)
      have hix := ix (P := Tryz.prog) (T := 24) (cap := cap) Tryz.underlying24 cells_Ring has_Ring hao hlt k rfl
      have hc1 : wr.cell? ⟨b, off + k * 3, none⟩ = some (.int .i64 ps[k].1) := hcell _ hb _ _ (by omega) (trips_at hltp).1
      have hc2 : wr.cell? ⟨b, off + k * 3 + 1, none⟩ = some (.int .i64 ps[k].2.1) := hcell _ hb _ _ (by omega) (trips_at hltp).2.1
      have hc3 : wr.cell? ⟨b, off + k * 3 + 2, none⟩ = some (.int .i64 ps[k].2.2) := hcell _ hb _ _ (by omega) (trips_at hltp).2.2
      have hs := heightI_snoc ps hltp
      rw [hs] at hb2
      have HS := Lib.hid hs; clear hs
      clear hcell
      generalize ps[k].1 = x at *
      generalize ps[k].2.1 = y at *
      generalize ps[k].2.2 = z at *
      generalize heightI (ps.take k) = s at *
      go_wp2
      go_roundw
      case rel => exact ⟨k + 1, by omega, by go_num, by rw [HS.out], hb.alloc hb.size _⟩
      case measure => simp [intOf]; omega
    · obtain rfl : k = n := by omega
      go_wp2
      go_returns
      refine RetB.mk (int_eq ?_) hb
      rw [List.take_of_length_le (by rw [HN.out]; exact Nat.le_refl _)]

theorem ValidProfile1_c (p : Int × Int × Int) (w : World) : Calls Tryz.prog 107 #[.agg #[.int .i64 p.1, .int .i64 p.2.1, .int .i64 p.2.2]] w (RetB (.bool (!ringT p)) w) := by
  have hv := fun w' => ValidRing_c p.1 p.2.1 p.2.2 w'
  have HV := Lib.hid hv; clear hv
  go_enter Tryz.func107, Tryz.ntmps107
  go_wp2_with (go_at_call 55; refine (HV.out _).mono ?_; rintro _ w1 ⟨rfl, s1⟩)
  go_returns
  exact RetB.mk rfl (Below.trans (by go_grown) (s1.mono (by simp)))

set_option maxHeartbeats 3200000 in
theorem ValidProfile_c (nm : ByteArray) (sv : Value) (ps : List (Int × Int × Int)) (w : World) (hnm : nm.size ≤ maxLen) (h : Rd w sv ps.length (trips ps)) :
    Calls Tryz.prog 45 #[.agg #[.string nm, sv]] w (RetB (.bool (profB nm ps)) w) := by
  have hn := fun w' => IsName_c nm w' hnm
  have HNM := Lib.hid hn; clear hn
  unfold maxLen at hnm
  have hi := fun w' (hb : Below w.heap.size w w') => ContainsFuncRing_c 107 #[] (fun x => !ringT x) sv ps w' (h.later hb) (enters Tryz.func107 (by kernel_rfl) rfl) (fun x _ w' _ => ValidProfile1_c x w')
  have hh := fun (ht : ps.all ringT = true) (hl : ps.length ≤ 32) w' (hb : Below w.heap.size w w') => height_c nm sv ps w' (h.later hb) ht hl
  have HH := Lib.hid hh; clear hh
  obtain ⟨hn, ao, cap, b, off, rfl, hao, hcell⟩ := h.open
  have HRD := Lib.hid h; clear h
  cases t0 : nameB nm <;> rw [t0] at HNM
  · have HI := Lib.hid hi; clear hi
    go_enter Tryz.func45, Tryz.ntmps45
    go_wp2_with (go_at_call 105; refine (HNM.out _).mono ?_; rintro _ w1 ⟨rfl, s1⟩)
    go_returns
    exact RetB.mk (bool_eq (by simp [profB, t0])) (Below.trans (by go_grown) (s1.mono (by simp)))
  · by_cases hl1 : 1 ≤ ps.length
    · by_cases hl2 : ps.length ≤ 32
      · cases t1 : ps.all ringT
        · have t1' : ps.any (fun x => !ringT x) = true := by rw [any_not, t1]; rfl
          rw [t1'] at hi
          have HI := Lib.hid hi; clear hi
          go_enter Tryz.func45, Tryz.ntmps45
          go_wp2_with (first | (go_at_call 105; refine (HNM.out _).mono ?_; rintro _ w1 ⟨rfl, s1⟩; have b1 : Below w.heap.size w w1 := Below.trans (by go_grown) (s1.mono (by simp)); have k1 := below_cell s1 (p := ⟨w.heap.size, 1, none⟩) (v := .slice ao ps.length cap) (by simp [go_sem])) | (go_at_call 106; refine (HI.out _ b1).mono ?_; rintro _ w2 ⟨rfl, s2⟩))
          go_returns
          exact RetB.mk (bool_eq (by simp [profB, t1])) (b1.trans (s2.mono b1.size))
        · have t1' : ps.any (fun x => !ringT x) = false := by rw [any_not, t1]; rfl
          rw [t1'] at hi
          have HI := Lib.hid hi; clear hi
          have hpf : profB nm ps = ((List.range ps.length).all (joinAt ps) && decide (heightI ps ≤ 300000)) := by
            simp [profB, t0, hl1, hl2, t1]
          have HPF := Lib.hid hpf; clear hpf
          have hh := HH.out t1 hl2
          have HHH := Lib.hid hh; clear hh
          generalize hn' : ps.length = n at *
          have HN := Lib.hid hn'; clear hn'
          go_enter Tryz.func45, Tryz.ntmps45
          go_wp2_with (first | (go_at_call 105; refine (HNM.out _).mono ?_; rintro _ w1 ⟨rfl, s1⟩; have b1 : Below w.heap.size w w1 := Below.trans (by go_grown) (s1.mono (by simp)); have k0 := below_cell s1 (p := ⟨w.heap.size, 0, none⟩) (v := .string nm) (by simp [go_sem]); have k1 := below_cell s1 (p := ⟨w.heap.size, 1, none⟩) (v := .slice ao n cap) (by simp [go_sem])) | (go_at_call 106; refine (HI.out _ b1).mono ?_; rintro _ w2 ⟨rfl, s2⟩; have l0 := below_cell s2 k0; have l1 := below_cell s2 k1; have b2 := b1.trans (s2.mono b1.size); clear k0 k1 s1))
          go_loopw [3] (fun i wr => ∃ (k : Nat), 1 ≤ k ∧ k ≤ n ∧ i = .int .i64 k ∧ (List.range k).all (joinAt ps) = true ∧ Below w2.heap.size w2 wr) (fun i _ => n - (intOf i).toNat)
          case atStart => exact ⟨1, Nat.le_refl _, hl1, rfl, rfl, Below.refl _ _⟩
          case round =>
            obtain ⟨k, hk1, hk, rfl, hx, hw⟩ := hrel
            have HX := Lib.hid hx; clear hx
            have hb := b2.trans (hw.mono b2.size)
            have m0 := below_cell hw l0
            have m1 := below_cell hw l1
            by_cases hlt : k < n
            · have hltp : k < ps.length := by rw [HN.out]; exact hlt
              have hkm : k - 1 < n := by omega
              have hltm : k - 1 < ps.length := by omega
              have hix := ix (P := Tryz.prog) (T := 24) (cap := cap) Tryz.underlying24 cells_Ring has_Ring hao hlt k rfl
              have hix2 := ix (P := Tryz.prog) (T := 24) (cap := cap) Tryz.underlying24 cells_Ring has_Ring hao hkm ((k : Int) - 1) (by omega)
              have hc1 : wr.cell? ⟨b, off + k * 3, none⟩ = some (.int .i64 (rg ps k).1) := by rw [rg_eq hltp]; exact hcell _ hb _ _ (by omega) (trips_at hltp).1
              have hc2 : wr.cell? ⟨b, off + k * 3 + 1, none⟩ = some (.int .i64 (rg ps k).2.1) := by rw [rg_eq hltp]; exact hcell _ hb _ _ (by omega) (trips_at hltp).2.1
              have hc3 : wr.cell? ⟨b, off + k * 3 + 2, none⟩ = some (.int .i64 (rg ps k).2.2) := by rw [rg_eq hltp]; exact hcell _ hb _ _ (by omega) (trips_at hltp).2.2
              have hd1 : wr.cell? ⟨b, off + (k - 1) * 3, none⟩ = some (.int .i64 (rg ps (k - 1)).1) := by rw [rg_eq hltm]; exact hcell _ hb _ _ (by omega) (trips_at hltm).1
              have hd2 : wr.cell? ⟨b, off + (k - 1) * 3 + 1, none⟩ = some (.int .i64 (rg ps (k - 1)).2.1) := by rw [rg_eq hltm]; exact hcell _ hb _ _ (by omega) (trips_at hltm).2.1
              have hd3 : wr.cell? ⟨b, off + (k - 1) * 3 + 2, none⟩ = some (.int .i64 (rg ps (k - 1)).2.2) := by rw [rg_eq hltm]; exact hcell _ hb _ _ (by omega) (trips_at hltm).2.2
              have hr : joinAt ps k = (decide ((rg ps (k - 1)).2.1 < (rg ps k).1) && decide ((rg ps k).2.1 < (rg ps (k - 1)).1)) := by
                have : (k == 0) = false := by simp; omega
                unfold joinAt joinB; rw [this, Bool.false_or]
              have HR := Lib.hid hr; clear hr
              have hp : joinAt ps k = true → (List.range (k + 1)).all (joinAt ps) = true := fun h => range_step HX.out h
              have hq : joinAt ps k = false → profB nm ps = false := fun h => by rw [HPF.out, range_false hlt h]; rfl
              have HP := Lib.hid hp; clear hp
              have HQ := Lib.hid hq; clear hq
              clear hcell
              have hw1 : IntKind.i64.wrap ((k : Int) - 1) = (k : Int) - 1 := IntWalk.i64_in _ (by omega)
              have hbl : w.heap.size < wr.heap.size := World.block_lt_of_cell? wr _ m0
              have hbb : b < wr.heap.size := World.block_lt_of_cell? wr _ hc1
              generalize (rg ps (k - 1)).1 = y0 at *
              generalize (rg ps (k - 1)).2.1 = y1 at *
              generalize (rg ps (k - 1)).2.2 = y2 at *
              generalize (rg ps k).1 = z0 at *
              generalize (rg ps k).2.1 = z1 at *
              generalize (rg ps k).2.2 = z2 at *
              have zw := hw.size
              by_cases t1 : y1 < z0
              · by_cases t2 : z1 < y0
                · go_wp2_with fail
                  go_region <;>
                  · go_wp2
                    go_roundw
                    case rel => exact ⟨k + 1, by omega, by omega, by go_num, HP.out (by rw [HR.out]; simp [t1, t2]), by go_grown⟩
                    case measure => simp [intOf]; omega
                · go_wp2_with fail
                  go_region <;>
                  · go_wp2
                    go_returns
                    exact RetB.mk (bool_eq (HQ.out (by rw [HR.out, decide_eq_false (by omega : ¬ z1 < y0), Bool.and_false])).symm) (by go_grown)
              · go_wp2_with fail
                go_region <;>
                · go_wp2
                  go_returns
                  exact RetB.mk (bool_eq (HQ.out (by rw [HR.out, decide_eq_false (by omega : ¬ y1 < z0), Bool.false_and])).symm) (by go_grown)
            · obtain rfl : k = n := by omega
              have hv : profB nm ps = decide (heightI ps ≤ 300000) := by rw [HPF.out, HX.out]; simp
              have HV := Lib.hid hv; clear hv
              go_wp2_with (go_at_call 48; refine (HHH.out _ hb).mono ?_; rintro _ w3 ⟨rfl, s3⟩)
              go_returns
              exact RetB.mk (bool_eq HV.out.symm) (hb.trans (s3.mono hb.size))
      · have HI := Lib.hid hi; clear hi
        go_enter Tryz.func45, Tryz.ntmps45
        go_wp2_with (first | (go_at_call 105; refine (HNM.out _).mono ?_; rintro _ w1 ⟨rfl, s1⟩; have b1 : Below w.heap.size w w1 := Below.trans (by go_grown) (s1.mono (by simp)); have k1 := below_cell s1 (p := ⟨w.heap.size, 1, none⟩) (v := .slice ao ps.length cap) (by simp [go_sem])))
        go_returns
        exact RetB.mk (bool_eq (by simp [profB, hl2])) b1
    · have HI := Lib.hid hi; clear hi
      go_enter Tryz.func45, Tryz.ntmps45
      go_wp2_with (first | (go_at_call 105; refine (HNM.out _).mono ?_; rintro _ w1 ⟨rfl, s1⟩; have b1 : Below w.heap.size w w1 := Below.trans (by go_grown) (s1.mono (by simp)); have k1 := below_cell s1 (p := ⟨w.heap.size, 1, none⟩) (v := .slice ao ps.length cap) (by simp [go_sem])))
      go_returns
      exact RetB.mk (bool_eq (by simp [profB, hl1])) b1

end Go.Proofs.YtgdadbmhdljcdaaGreatDoor

/- The widest and the thinnest ring. -/
namespace Go.Proofs.YtgdadbmhdljcdaaGreatDoor
set_option linter.unusedVariables false
open Go.RowKit Go.Proofs.Bell Go.BigFrame

def bestK (b : (Int × Int × Int) → (Int × Int × Int) → Bool) (rs : List (Int × Int × Int)) : Nat → Nat
  | 0 => 0
  | k + 1 => if b (rg rs k) (rg rs (bestK b rs k)) then k else bestK b rs k
theorem bestK_lt {b : (Int × Int × Int) → (Int × Int × Int) → Bool} {rs : List (Int × Int × Int)} {n : Nat} (hn : 1 ≤ n) : ∀ k, k ≤ n → bestK b rs k < n
  | 0, _ => by simp [bestK]; omega
  | k + 1, h => by
    have := bestK_lt (b := b) (rs := rs) hn k (by omega)
    simp only [bestK]
    split <;> omega
def widB (p q : Int × Int × Int) : Bool := decide (q.1 < p.1)
def thinB (p q : Int × Int × Int) : Bool := decide (p.1 - p.2.1 < q.1 - q.2.1)
theorem widK_one (rs : List (Int × Int × Int)) : bestK widB rs 1 = 0 := by cases h : widB (rg rs 0) (rg rs 0) <;> simp [bestK, h]
theorem thinK_one (rs : List (Int × Int × Int)) : bestK thinB rs 1 = 0 := by cases h : thinB (rg rs 0) (rg rs 0) <;> simp [bestK, h]
def widI (nm : ByteArray) (rs : List (Int × Int × Int)) : Int × Int := if profB nm rs then ((bestK widB rs rs.length : Int), 0) else (0, 1)
def thinI (nm : ByteArray) (rs : List (Int × Int × Int)) : Int × Int := if profB nm rs then ((bestK thinB rs rs.length : Int), 0) else (0, 1)
theorem profB_t {nm : ByteArray} {rs : List (Int × Int × Int)} (h : profB nm rs = true) : 1 ≤ rs.length ∧ rs.length ≤ 32 ∧ rs.all ringT = true ∧ heightI rs ≤ 300000 := by
  simp only [profB, Bool.and_eq_true, decide_eq_true_eq] at h
  exact ⟨h.1.1.1.1.2, h.1.1.1.2, h.1.1.2, h.2⟩

end Go.Proofs.YtgdadbmhdljcdaaGreatDoor

/- The widest and the thinnest ring: the program's, and the reference's thinnest. -/
namespace Go.Proofs.YtgdadbmhdljcdaaGreatDoor
set_option linter.unusedVariables false
open Go.RowKit Go.Proofs.Bell Go.BigFrame

theorem wall_c (a b c : Int) (w : World) (h1 : 0 ≤ a) (h2 : a ≤ 1000000) (h3 : 0 ≤ b) (h4 : b ≤ 1000000) : Calls Tryz.prog 50 #[.agg #[.int .i64 a, .int .i64 b, .int .i64 c]] w (RetB (.int .i64 (a - b)) w) := by
  go_enter Tryz.func50, Tryz.ntmps50
  go_wp2
  go_returns
  exact RetB.mk rfl (by go_grown)

end Go.Proofs.YtgdadbmhdljcdaaGreatDoor

/- The program's thinnest ring. -/
namespace Go.Proofs.YtgdadbmhdljcdaaGreatDoor
set_option linter.unusedVariables false
open Go.RowKit Go.Proofs.Bell Go.BigFrame

set_option maxHeartbeats 3200000 in
theorem thinnest_c (nm : ByteArray) (sv : Value) (ps : List (Int × Int × Int)) (w : World) (h : Rd w sv ps.length (trips ps)) (hal : ps.all ringT = true) (hl1 : 1 ≤ ps.length) :
    Calls Tryz.prog 53 #[.agg #[.string nm, sv]] w (RetB (.int .i64 (bestK thinB ps ps.length : Nat)) w) := by
  obtain ⟨hn, ao, cap, b, off, rfl, hao, hcell⟩ := h.open
  clear h
  have HAL := Lib.hid hal; clear hal
  generalize hn' : ps.length = n at *
  have HN := Lib.hid hn'; clear hn'
  go_enter Tryz.func53, Tryz.ntmps53
  go_wp2_with fail
  go_loopw [9, 3] (fun i s wr => ∃ (k : Nat), k ≤ n ∧ i = .int .i64 k ∧ s = .int .i64 (bestK thinB ps k : Nat) ∧ wr.cell? ⟨w.heap.size, 1, none⟩ = some (.slice ao n cap) ∧ Below w.heap.size w wr) (fun i _ _ => n - (intOf i).toNat)
  case atStart => exact ⟨0, Nat.zero_le _, rfl, rfl, by simp [go_sem], by go_grown⟩
  case round =>
    obtain ⟨k, hk, rfl, rfl, m1, hb⟩ := hrel
    by_cases hlt : k < n
    · have hj := bestK_lt (b := thinB) (rs := ps) hl1 k hk
      have hltp : k < ps.length := by rw [HN.out]; exact hlt
      have hltj : bestK thinB ps k < ps.length := by rw [HN.out]; exact hj
      have hs : bestK thinB ps (k + 1) = if thinB (rg ps k) (rg ps (bestK thinB ps k)) then k else bestK thinB ps k := rfl
      generalize bestK thinB ps k = j at *
      have hix := ix (P := Tryz.prog) (T := 24) (cap := cap) Tryz.underlying24 cells_Ring has_Ring hao hlt k rfl
      have hix2 := ix (P := Tryz.prog) (T := 24) (cap := cap) Tryz.underlying24 cells_Ring has_Ring hao hj j rfl
      have hc1 : wr.cell? ⟨b, off + k * 3, none⟩ = some (.int .i64 (rg ps k).1) := by rw [rg_eq hltp]; exact hcell _ hb _ _ (by omega) (trips_at hltp).1
      have hc2 : wr.cell? ⟨b, off + k * 3 + 1, none⟩ = some (.int .i64 (rg ps k).2.1) := by rw [rg_eq hltp]; exact hcell _ hb _ _ (by omega) (trips_at hltp).2.1
      have hc3 : wr.cell? ⟨b, off + k * 3 + 2, none⟩ = some (.int .i64 (rg ps k).2.2) := by rw [rg_eq hltp]; exact hcell _ hb _ _ (by omega) (trips_at hltp).2.2
      have hd1 : wr.cell? ⟨b, off + j * 3, none⟩ = some (.int .i64 (rg ps j).1) := by rw [rg_eq hltj]; exact hcell _ hb _ _ (by omega) (trips_at hltj).1
      have hd2 : wr.cell? ⟨b, off + j * 3 + 1, none⟩ = some (.int .i64 (rg ps j).2.1) := by rw [rg_eq hltj]; exact hcell _ hb _ _ (by omega) (trips_at hltj).2.1
      have hd3 : wr.cell? ⟨b, off + j * 3 + 2, none⟩ = some (.int .i64 (rg ps j).2.2) := by rw [rg_eq hltj]; exact hcell _ hb _ _ (by omega) (trips_at hltj).2.2
      have hs2 : (decide ((rg ps k).1 - (rg ps k).2.1 < (rg ps j).1 - (rg ps j).2.1)) = thinB (rg ps k) (rg ps j) := rfl
      have hrk := ringT_t (by have := List.all_eq_true.1 HAL.out ps[k] (List.getElem_mem hltp); rw [← rg_eq hltp] at this; exact this)
      have hrj := ringT_t (by have := List.all_eq_true.1 HAL.out ps[j] (List.getElem_mem hltj); rw [← rg_eq hltj] at this; exact this)
      have hq1 : 0 ≤ (rg ps k).1 ∧ (rg ps k).1 ≤ 1000000 ∧ 0 ≤ (rg ps k).2.1 ∧ (rg ps k).2.1 ≤ 1000000 := by omega
      have hq2 : 0 ≤ (rg ps j).1 ∧ (rg ps j).1 ≤ 1000000 ∧ 0 ≤ (rg ps j).2.1 ∧ (rg ps j).2.1 ≤ 1000000 := by omega
      have hbb : b < wr.heap.size := World.block_lt_of_cell? wr _ hc1
      have hbl : w.heap.size < wr.heap.size := World.block_lt_of_cell? wr _ m1
      clear hcell hltj hrk hrj
      rw [← hs2] at hs
      clear hs2
      generalize (rg ps k).1 = x at *
      generalize (rg ps k).2.1 = x' at *
      generalize (rg ps k).2.2 = x'' at *
      generalize (rg ps j).1 = y at *
      generalize (rg ps j).2.1 = y' at *
      generalize (rg ps j).2.2 = y'' at *
      cases t1 : decide (x - x' < y - y') <;>
      · rw [t1] at hs
        have HS := Lib.hid hs; clear hs
        go_wp2_with fail
        have e0 : ∀ s : Lat (wr.alloc (Obj.cells #[.int .i64 x, .int .i64 x', .int .i64 x''] 37)), s.world.cell? ⟨wr.heap.size, 0, none⟩ = some (.int .i64 x) := fun s => s.cell (by simp [go_sem])
        have e1 : ∀ s : Lat (wr.alloc (Obj.cells #[.int .i64 x, .int .i64 x', .int .i64 x''] 37)), s.world.cell? ⟨wr.heap.size, 1, none⟩ = some (.int .i64 x') := fun s => s.cell (by simp [go_sem])
        have e2 : ∀ s : Lat (wr.alloc (Obj.cells #[.int .i64 x, .int .i64 x', .int .i64 x''] 37)), s.world.cell? ⟨wr.heap.size, 2, none⟩ = some (.int .i64 x'') := fun s => s.cell (by simp [go_sem])
        have e3 : ∀ s : Lat (wr.alloc (Obj.cells #[.int .i64 x, .int .i64 x', .int .i64 x''] 37)), s.world.cell? ⟨w.heap.size, 1, none⟩ = some (.slice ao n cap) := fun s => s.cell (alloc_cell _ m1)
        have e4 : ∀ s : Lat (wr.alloc (Obj.cells #[.int .i64 x, .int .i64 x', .int .i64 x''] 37)), s.world.cell? ⟨b, off + j * 3, none⟩ = some (.int .i64 y) := fun s => s.cell (alloc_cell _ hd1)
        have e5 : ∀ s : Lat (wr.alloc (Obj.cells #[.int .i64 x, .int .i64 x', .int .i64 x''] 37)), s.world.cell? ⟨b, off + j * 3 + 1, none⟩ = some (.int .i64 y') := fun s => s.cell (alloc_cell _ hd2)
        have e6 : ∀ s : Lat (wr.alloc (Obj.cells #[.int .i64 x, .int .i64 x', .int .i64 x''] 37)), s.world.cell? ⟨b, off + j * 3 + 2, none⟩ = some (.int .i64 y'') := fun s => s.cell (alloc_cell _ hd3)
        refine wp_region_lat (by kernel_rfl) (by kernel_rfl) ?_
        repeat (go_big_quiet_step ((go_at_call 50; exact Lat.callB (wall_c _ _ _ _ (by omega) (by omega) (by omega) (by omega)))))
        refine wpQuiet_nil ?_
        rintro _ ⟨s, rfl⟩
        have f3 := e3 s
        have hb2 := (hb.alloc hb.size (Obj.cells #[.int .i64 x, .int .i64 x', .int .i64 x''] 37)).trans (s.below.mono (by simp; have := hb.size; omega))
        clear e0 e1 e2 e3 e4 e5 e6 hc1 hc2 hc3 hd1 hd2 hd3 t1
        go_wp2
        go_roundw
        case rel => exact ⟨k + 1, by omega, by go_num, by rw [HS.out]; rfl, f3, hb2⟩
        case measure => simp [intOf]; omega
    · obtain rfl : k = n := by omega
      go_wp2
      go_returns
      exact RetB.mk rfl hb

theorem implThinnestRing_c (nm : ByteArray) (sv : Value) (ps : List (Int × Int × Int)) (w : World) (hnm : nm.size ≤ maxLen) (h : Rd w sv ps.length (trips ps)) :
    Calls Tryz.prog 15 #[.agg #[.string nm, sv]] w (RetB (.tuple #[.int .i64 (thinI nm ps).1, .int .i64 (thinI nm ps).2]) w) := by
  have hok := fun w' (hb : Below w.heap.size w w') => ValidProfile_c nm sv ps w' hnm (h.later hb)
  have hv := fun (hp : profB nm ps = true) => profB_t hp
  have ht := fun h1 h2 w' (hb : Below w.heap.size w w') => thinnest_c nm sv ps w' (h.later hb) h1 h2
  clear h
  cases t0 : profB nm ps <;> rw [t0] at hok
  · have HOK := Lib.hid hok; clear hok
    have HT := Lib.hid ht; clear ht
    go_enter Tryz.func15, Tryz.ntmps15
    go_wp2_with fail
    refine (HOK.out _ (by go_grown)).mono ?_
    rintro _ w1 ⟨rfl, s1⟩
    have b1 : Below w.heap.size w w1 := Below.trans (by go_grown) (s1.mono (by simp))
    clear s1
    go_wp2
    go_returns
    exact RetB.mk (ints_eq (by simp [thinI, t0]) (by simp [thinI, t0])) b1
  · have HOK := Lib.hid hok; clear hok
    obtain ⟨hl1, hl2, hal, _⟩ := hv t0
    have ht := ht hal hl1
    have HT := Lib.hid ht; clear ht
    have hr : thinI nm ps = ((bestK thinB ps ps.length : Int), 0) := by simp [thinI, t0]
    rw [hr]
    clear hv hr
    go_enter Tryz.func15, Tryz.ntmps15
    go_wp2_with fail
    refine (HOK.out _ (by go_grown)).mono ?_
    rintro _ w1 ⟨rfl, s1⟩
    have b1 : Below w.heap.size w w1 := Below.trans (by go_grown) (s1.mono (by simp))
    have k0 := below_cell s1 (p := ⟨w.heap.size, 0, none⟩) (v := .string nm) (by simp [go_sem])
    have k1 := below_cell s1 (p := ⟨w.heap.size, 1, none⟩) (v := sv) (by simp [go_sem])
    clear s1
    go_wp2_with fail
    refine (HT.out _ b1).mono ?_
    rintro _ w2 ⟨rfl, s2⟩
    go_wp2
    go_returns
    exact RetB.mk rfl (b1.trans (s2.mono b1.size))

end Go.Proofs.YtgdadbmhdljcdaaGreatDoor

/- The ring at a height. -/
namespace Go.Proofs.YtgdadbmhdljcdaaGreatDoor
set_option linter.unusedVariables false
open Go.RowKit Go.Proofs.Bell Go.BigFrame

def askI (nm : ByteArray) (rs : List (Int × Int × Int)) (h : Int) : Int := if profB nm rs then (if inB h 0 (heightI rs - 1) then 0 else 2) else 1
def atK (rs : List (Int × Int × Int)) (h : Int) : Nat := (List.range rs.length).findIdx (fun j => decide (h < heightI (rs.take (j + 1))))
theorem atK_eq {rs : List (Int × Int × Int)} {h : Int} {k : Nat} (hk : k < rs.length) (ha : (List.range k).all (fun j => decide (heightI (rs.take (j + 1)) ≤ h)) = true) (h1 : h < heightI (rs.take (k + 1))) : atK rs h = k := by
  unfold atK
  rw [List.findIdx_eq (by simpa using hk)]
  refine ⟨by simpa using h1, fun j hj => ?_⟩
  have := List.all_eq_true.1 ha j (List.mem_range.2 hj)
  simp at this ⊢
  exact this
theorem atK_end {rs : List (Int × Int × Int)} {h : Int} (hl : 1 ≤ rs.length) (ha : (List.range rs.length).all (fun j => decide (heightI (rs.take (j + 1)) ≤ h)) = true) (h1 : h < heightI rs) : False := by
  have := List.all_eq_true.1 ha (rs.length - 1) (List.mem_range.2 (by omega))
  rw [show rs.length - 1 + 1 = rs.length by omega, List.take_length] at this
  simp at this
  omega
theorem atK_lt {rs : List (Int × Int × Int)} {h : Int} (hl : 1 ≤ rs.length) (h1 : h < heightI rs) : atK rs h < rs.length := by
  have : (List.range rs.length).findIdx (fun j => decide (h < heightI (rs.take (j + 1)))) < (List.range rs.length).length := by
    rw [List.findIdx_lt_length]
    refine ⟨rs.length - 1, List.mem_range.2 (by omega), ?_⟩
    rw [show rs.length - 1 + 1 = rs.length by omega, List.take_length]
    simpa using h1
  simpa [atK] using this

set_option maxHeartbeats 1600000 in
theorem ringAt_c (nm : ByteArray) (sv : Value) (ps : List (Int × Int × Int)) (h : Int) (w : World) (hr : Rd w sv ps.length (trips ps)) (hal : ps.all ringT = true) (hl1 : 1 ≤ ps.length) (hl2 : ps.length ≤ 32) (h0 : 0 ≤ h) (h1 : h < heightI ps) :
    Calls Tryz.prog 52 #[.agg #[.string nm, sv], .int .i64 h] w (RetB (.tuple #[.int .i64 (atK ps h : Nat), .int .i64 (heightI (ps.take (atK ps h)))]) w) := by
  have hbd := height_bd hal
  have hbn : heightI ps ≤ 9600000 := by have := hbd ps.length; rw [List.take_length] at this; omega
  have HB := Lib.hid hbd; clear hbd
  have hend := fun a => atK_end (h := h) hl1 a h1
  have HEND := Lib.hid hend; clear hend
  have heq := fun k hk ha h1 => atK_eq (rs := ps) (h := h) (k := k) hk ha h1
  have HEQ := Lib.hid heq; clear heq
  have hh : h ≤ 9600000 := by omega
  clear h1 hal hbn
  generalize hn : ps.length = n at *
  have HN := Lib.hid hn; clear hn
  obtain ⟨hn, ao, cap, b, off, rfl, hao, hcell⟩ := hr.open
  clear hr
  go_enter Tryz.func52, Tryz.ntmps52
  go_wp2_with fail
  go_loopw [12, 6] (fun i s wr => ∃ (k : Nat), k ≤ n ∧ i = .int .i64 k ∧ s = .int .i64 (heightI (ps.take k)) ∧ (List.range k).all (fun j => decide (heightI (ps.take (j + 1)) ≤ h)) = true ∧ Below w.heap.size w wr) (fun i _ _ => n - (intOf i).toNat)
  case atStart => exact ⟨0, Nat.zero_le _, rfl, by simp [heightI], rfl, by go_grown⟩
  case round =>
    obtain ⟨k, hk, rfl, rfl, hx, hb⟩ := hrel
    have HX := Lib.hid hx; clear hx
    by_cases hlt : k < n
    · have hltp : k < ps.length := by rw [HN.out]; exact hlt
      have hb1 := HB.out k
      have hb2 := HB.out (k + 1)
      have hix := ix (P := Tryz.prog) (T := 24) (cap := cap) Tryz.underlying24 cells_Ring has_Ring hao hlt k rfl
      have hc1 : wr.cell? ⟨b, off + k * 3, none⟩ = some (.int .i64 ps[k].1) := hcell _ hb _ _ (by omega) (trips_at hltp).1
      have hc2 : wr.cell? ⟨b, off + k * 3 + 1, none⟩ = some (.int .i64 ps[k].2.1) := hcell _ hb _ _ (by omega) (trips_at hltp).2.1
      have hc3 : wr.cell? ⟨b, off + k * 3 + 2, none⟩ = some (.int .i64 ps[k].2.2) := hcell _ hb _ _ (by omega) (trips_at hltp).2.2
      have hs := heightI_snoc ps hltp
      have hp : heightI (ps.take (k + 1)) ≤ h → (List.range (k + 1)).all (fun j => decide (heightI (ps.take (j + 1)) ≤ h)) = true := fun hle => range_step HX.out (by simpa using hle)
      have hq : h < heightI (ps.take (k + 1)) → atK ps h = k := fun hl => HEQ.out k hlt HX.out hl
      rw [hs] at hb2 hp hq
      have HS := Lib.hid hs; clear hs
      have HP := Lib.hid hp; clear hp
      have HQ := Lib.hid hq; clear hq
      clear hcell
      generalize ps[k].1 = x at *
      generalize ps[k].2.1 = y at *
      generalize ps[k].2.2 = z at *
      generalize hsv : heightI (ps.take k) = s at *
      have HSV := Lib.hid hsv; clear hsv
      by_cases t1 : h < s + z
      · have ha := HQ.out t1
        rw [ha, HSV.out]
        go_wp2
        go_returns
        exact RetB.mk rfl (hb.alloc hb.size _)
      · go_wp2
        go_roundw
        case rel => exact ⟨k + 1, by omega, by go_num, by rw [HS.out], HP.out (by omega), hb.alloc hb.size _⟩
        case measure => simp [intOf]; omega
    · obtain rfl : k = n := by omega
      exact (HEND.out HX.out).elim

end Go.Proofs.YtgdadbmhdljcdaaGreatDoor

/- The ring at a height: the whole functions. -/
namespace Go.Proofs.YtgdadbmhdljcdaaGreatDoor
set_option linter.unusedVariables false
open Go.RowKit Go.Proofs.Bell Go.BigFrame

def ringAtI (nm : ByteArray) (rs : List (Int × Int × Int)) (h : Int) : Int × Int := if askI nm rs h = 0 then ((atK rs h : Int), 0) else (0, askI nm rs h)
theorem askI_zero {nm : ByteArray} {rs : List (Int × Int × Int)} {h : Int} (h0 : askI nm rs h = 0) : rs.all ringT = true ∧ 1 ≤ rs.length ∧ rs.length ≤ 32 ∧ 0 ≤ h ∧ h < heightI rs := by
  unfold askI at h0
  split at h0
  · rename_i hp
    obtain ⟨h1, h2, h3, _⟩ := profB_t hp
    split at h0
    · rename_i hi
      have := inB_t hi
      exact ⟨h3, h1, h2, by omega, by omega⟩
    · cases h0
  · cases h0

set_option maxHeartbeats 800000 in
theorem atHeight_c (nm : ByteArray) (sv : Value) (ps : List (Int × Int × Int)) (h : Int) (w : World) (hnm : nm.size ≤ maxLen) (hr : Rd w sv ps.length (trips ps)) :
    Calls Tryz.prog 51 #[.agg #[.string nm, sv], .int .i64 h] w (RetB (.int .i64 (askI nm ps h)) w) := by
  have hok := fun w' (hb : Below w.heap.size w w') => ValidProfile_c nm sv ps w' hnm (hr.later hb)
  have hv := fun (hp : profB nm ps = true) => profB_t hp
  cases t0 : profB nm ps <;> rw [t0] at hok
  · have HOK := Lib.hid hok; clear hok
    go_enter Tryz.func51, Tryz.ntmps51
    go_wp2_with fail
    refine (HOK.out _ (by go_grown)).mono ?_
    rintro _ w1 ⟨rfl, s1⟩
    have b1 : Below w.heap.size w w1 := Below.trans (by go_grown) (s1.mono (by simp))
    clear s1
    go_wp2
    go_returns
    exact RetB.mk (int_eq (by simp [askI, t0])) b1
  · obtain ⟨hl1, hl2, hal, hhm⟩ := hv t0
    have hh := fun w' (hb : Below w.heap.size w w') => height_c nm sv ps w' (hr.later hb) hal hl2
    have HH := Lib.hid hh; clear hh
    have HOK := Lib.hid hok; clear hok
    have hbd := (height_bd hal ps.length).1
    rw [List.take_length] at hbd
    clear hv hal hr
    have ha : askI nm ps h = if inB h 0 (heightI ps - 1) then 0 else 2 := by simp [askI, t0]
    rw [ha]
    clear ha
    generalize heightI ps = hI at *
    cases t1 : inB h 0 (hI - 1) <;>
    · go_enter Tryz.func51, Tryz.ntmps51
      go_wp2_with fail
      refine (HOK.out _ (by go_grown)).mono ?_
      rintro _ w1 ⟨rfl, s1⟩
      have b1 : Below w.heap.size w w1 := Below.trans (by go_grown) (s1.mono (by simp))
      have k0 := below_cell s1 (p := ⟨w.heap.size, 0, none⟩) (v := .string nm) (by simp [go_sem])
      have k1 := below_cell s1 (p := ⟨w.heap.size, 1, none⟩) (v := sv) (by simp [go_sem])
      clear s1
      go_wp2_with fail
      refine (HH.out _ b1).mono ?_
      rintro _ w2 ⟨rfl, s2⟩
      have b2 := b1.trans (s2.mono b1.size)
      clear s2
      go_wp2_with (go_at_call 56; refine (within_c _ _ _ _).mono ?_; rintro _ _ ⟨rfl, rfl⟩; rw [t1])
      go_returns
      exact RetB.mk (int_eq (by simp)) b2

set_option maxHeartbeats 800000 in
theorem implRingAt_c (nm : ByteArray) (sv : Value) (ps : List (Int × Int × Int)) (h : Int) (w : World) (hnm : nm.size ≤ maxLen) (hr : Rd w sv ps.length (trips ps)) :
    Calls Tryz.prog 14 #[.agg #[.string nm, sv], .int .i64 h] w (RetB (.tuple #[.int .i64 (ringAtI nm ps h).1, .int .i64 (ringAtI nm ps h).2]) w) := by
  have hok := fun w' (hb : Below w.heap.size w w') => atHeight_c nm sv ps h w' hnm (hr.later hb)
  have hz := fun h0 w' (hb : Below w.heap.size w w') => by
    obtain ⟨h1, h2, h3, h4, h5⟩ := askI_zero (nm := nm) (rs := ps) (h := h) h0
    exact ringAt_c nm sv ps h w' (hr.later hb) h1 h2 h3 h4 h5
  have HOK := Lib.hid hok; clear hok
  by_cases t0 : askI nm ps h = 0
  · have hz := hz t0
    have HZ := Lib.hid hz; clear hz
    have ha : ringAtI nm ps h = ((atK ps h : Int), 0) := by simp [ringAtI, t0]
    rw [ha]
    rw [t0] at HOK
    go_enter Tryz.func14, Tryz.ntmps14
    go_wp2_with fail
    refine (HOK.out _ (by go_grown)).mono ?_
    rintro _ w1 ⟨rfl, s1⟩
    have b1 : Below w.heap.size w w1 := Below.trans (by go_grown) (s1.mono (by simp))
    have k0 := below_cell s1 (p := ⟨w.heap.size, 0, none⟩) (v := .string nm) (by simp [go_sem])
    have k1 := below_cell s1 (p := ⟨w.heap.size, 1, none⟩) (v := sv) (by simp [go_sem])
    clear s1
    go_wp2_with fail
    refine (HZ.out _ b1).mono ?_
    rintro _ w2 ⟨rfl, s2⟩
    have b2 := b1.trans (s2.mono b1.size)
    clear s2
    go_wp2
    go_returns
    exact RetB.mk rfl b2
  · have ha : ringAtI nm ps h = (0, askI nm ps h) := by simp [ringAtI, t0]
    rw [ha]
    clear hz ha hr
    generalize askI nm ps h = c at *
    go_enter Tryz.func14, Tryz.ntmps14
    go_wp2_with fail
    refine (HOK.out _ (by go_grown)).mono ?_
    rintro _ w1 ⟨rfl, s1⟩
    have b1 : Below w.heap.size w w1 := Below.trans (by go_grown) (s1.mono (by simp))
    clear s1
    go_wp2
    go_returns
    exact RetB.mk rfl b1

end Go.Proofs.YtgdadbmhdljcdaaGreatDoor

