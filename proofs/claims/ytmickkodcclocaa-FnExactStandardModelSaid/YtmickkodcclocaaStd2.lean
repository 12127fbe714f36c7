/- The standard model of some zones: both functions. -/
import Derived.Test.YtmickkodcclocaaStd
namespace Go.Proofs.Ytmickkodcclocaa
set_option linter.unusedVariables false
open Go.RowKit Go.Proofs.Bell Go.BigFrame

def stdI (zs : List Int) : (List Int × List (List Int) × List Int) × Int := if zonesB zs 31 then ((zs, stdK zs.length 5, base5), 0) else (([], [], []), 1)
theorem stdI_bd (zs : List Int) : (stdI zs).1.1.length ≤ 100000 ∧ SzSS (stdI zs).1.2.1 ≤ 100000 ∧ (stdI zs).1.2.2.length ≤ 100000 := by
  unfold stdI
  cases t0 : zonesB zs 31
  · simp [SzSS, lensK]
  · obtain ⟨h1, h2⟩ := zonesB_len t0
    refine ⟨by simp; omega, ?_, by simp [base5]⟩
    simp [SzSS, stdK, lensK, wgtK_len, List.getD]
    omega

set_option maxRecDepth 100000 in
set_option maxHeartbeats 1600000 in
theorem specStandardModel_c (v : Value) (zs : List Int) (w : World) (hr : Rd w v zs.length (ints zs)) :
    Calls Try.prog 29 #[v] w (RetM2 (stdI zs).1.1 (stdI zs).1.2.1 (stdI zs).1.2.2 (.int .i64 (stdI zs).2) w) := by
  have hz := fun w' (hx : Below w.heap.size w w') => l08Zones_c v zs w' (hr.later hx)
  cases t0 : zonesB zs 31 <;> rw [t0] at hz
  · have he : stdI zs = (([], [], []), 1) := by simp [stdI, t0]
    rw [he]
    obtain ⟨hn, ao, cap, b, off, rfl, hao, hcell⟩ := hr.open
    clear he hao hcell hr
    have HZ := Lib.hid hz; clear hz
    go_enter Try.func29, Try.ntmps29
    have b0 : Below w.heap.size w w := Below.refl _ _
    have z0 : w.heap.size ≤ w.heap.size := Nat.le_refl _
    go_wp2_with fail
    refine (HZ.out _ (by go_grown)).mono ?_
    rintro _ w1 ⟨rfl, d1⟩
    have r1 := Dr.below d1; clear d1
    have s1 : Below w.heap.size w w1 := Below.trans (by go_grown) (r1.mono (by simp; try omega))
    have b1 := b0.trans (s1.mono z0)
    have z1 := b1.size
    have y1 := s1.size
    have v1 : w.heap.size + 1 ≤ w1.heap.size := by have := r1.size; simp only [World.size_alloc] at this; omega
    have c0_0_1 := below_cell r1 (p := ⟨w.heap.size, 0, none⟩) (v := .slice none 0 0) (by simp [go_sem])
    have c0_1_1 := below_cell r1 (p := ⟨w.heap.size, 1, none⟩) (v := .slice none 0 0) (by simp [go_sem])
    have c0_2_1 := below_cell r1 (p := ⟨w.heap.size, 2, none⟩) (v := .slice none 0 0) (by simp [go_sem])
    have f0_1 : ∀ j, w1.frozen? ⟨w.heap.size, j, none⟩ = false := fun j => (r1.frozen (p := ⟨w.heap.size, j, none⟩) (by simp [go_sem])).trans (by simp [go_sem])
    clear r1
    go_wp2
    refine bodyPost_ret (v := .tuple #[.agg #[.slice none 0 0, .slice none 0 0, .slice none 0 0], .int .i64 1]) (by simp [results, Try.results29, go_sem, c0_0_1, c0_1_1, c0_2_1]) rfl ?_
    exact RetM2.nil (((b1.setCell (Nat.le_refl _) _).setCell (Nat.le_refl _) _).setCell (Nat.le_refl _) _)
  · have he : stdI zs = ((zs, stdK zs.length 5, base5), 0) := by simp [stdI, t0]
    rw [he]
    obtain ⟨h1, h2⟩ := zonesB_len t0
    have hs := fun w' (hx : Below w.heap.size w w') => l08Standard_c v zs w' (hr.later hx) h1 h2
    obtain ⟨hn, ao, cap, b, off, rfl, hao, hcell⟩ := hr.open
    clear he hao hcell hr
    have HZ := Lib.hid hz; clear hz
    have HS := Lib.hid hs; clear hs
    go_enter Try.func29, Try.ntmps29
    have b0 : Below w.heap.size w w := Below.refl _ _
    have z0 : w.heap.size ≤ w.heap.size := Nat.le_refl _
    go_wp2_with fail
    refine (HZ.out _ (by go_grown)).mono ?_
    rintro _ w1 ⟨rfl, d1⟩
    have r1 := Dr.below d1; clear d1
    have s1 : Below w.heap.size w w1 := Below.trans (by go_grown) (r1.mono (by simp; try omega))
    have b1 := b0.trans (s1.mono z0)
    have z1 := b1.size
    have y1 := s1.size
    have v1 : w.heap.size + 1 ≤ w1.heap.size := by have := r1.size; simp only [World.size_alloc] at this; omega
    have c0_0_1 := below_cell r1 (p := ⟨w.heap.size, 0, none⟩) (v := .slice none 0 0) (by simp [go_sem])
    have c0_1_1 := below_cell r1 (p := ⟨w.heap.size, 1, none⟩) (v := .slice none 0 0) (by simp [go_sem])
    have c0_2_1 := below_cell r1 (p := ⟨w.heap.size, 2, none⟩) (v := .slice none 0 0) (by simp [go_sem])
    have f0_1 : ∀ j, w1.frozen? ⟨w.heap.size, j, none⟩ = false := fun j => (r1.frozen (p := ⟨w.heap.size, j, none⟩) (by simp [go_sem])).trans (by simp [go_sem])
    clear r1
    go_wp2_with fail
    refine (HS.out _ b1).mono ?_
    rintro _ w2 ⟨x0, x1, x2, us, rfl, n2, r2⟩
    have s2 := r2
    have b2 := b1.trans (s2.mono z1)
    have z2 := b2.size
    have y2 := s2.size
    have k0_2 := c0_0_1
    have c0_0_2 := below_cell s2 c0_0_1; clear c0_0_1
    have c0_1_2 := below_cell s2 c0_1_1; clear c0_1_1
    have c0_2_2 := below_cell s2 c0_2_1; clear c0_2_1
    have f0_2 : ∀ j, w2.frozen? ⟨w.heap.size, j, none⟩ = false := fun j => (s2.frozen (p := ⟨w.heap.size, j, none⟩) (show w.heap.size < _ from World.block_lt_of_cell? _ ⟨w.heap.size, 0, none⟩ k0_2)).trans (f0_1 j); clear f0_1
    have hlo := z2
    obtain ⟨ao0, cp0, rfl⟩ := own_shape n2.z
    obtain ⟨ao1, cp1, rfl⟩ := own_shape n2.s.row
    obtain ⟨ao2, cp2, rfl⟩ := own_shape n2.b
    have hfin : ∀ u0 u1 u2, OwnM w.heap.size (((w2.setCell ⟨w.heap.size, 0, none⟩ u0).setCell ⟨w.heap.size, 1, none⟩ u1).setCell ⟨w.heap.size, 2, none⟩ u2).heap.size (((w2.setCell ⟨w.heap.size, 0, none⟩ u0).setCell ⟨w.heap.size, 1, none⟩ u1).setCell ⟨w.heap.size, 2, none⟩ u2) _ _ _ us _ _ _ := fun u0 u1 u2 => by
      have := (((n2.set (a := ⟨w.heap.size, 0, none⟩) (by have := v1; simp; omega) u0).set (a := ⟨w.heap.size, 1, none⟩) (by have := v1; simp; omega) u1).set (a := ⟨w.heap.size, 2, none⟩) (by have := v1; simp; omega) u2).wide (lo' := w.heap.size) (hi' := w2.heap.size) (by have := v1; omega) (Nat.le_refl _)
      simpa using this
    have HFIN := Lib.hid hfin; clear hfin
    clear n2
    go_wp2
    refine bodyPost_ret (v := .tuple #[.agg #[.slice ao0 zs.length cp0, .slice ao1 (stdK zs.length 5).length cp1, .slice ao2 base5.length cp2], .int .i64 0]) (by simp [results, Try.results29, go_sem, c0_0_2, c0_1_2, c0_2_2]) rfl ?_
    exact ⟨_, _, _, us, rfl, HFIN.out _ _ _, (b2.setCell (Nat.le_refl _) _).setCell (Nat.le_refl _) _ |>.setCell (Nat.le_refl _) _⟩

set_option maxRecDepth 100000 in
set_option maxHeartbeats 3200000 in
theorem implStandardModel_c (v : Value) (zs : List Int) (w : World) (hr : Rd w v zs.length (ints zs)) :
    Calls Try.prog 31 #[v] w (RetM2 (stdI zs).1.1 (stdI zs).1.2.1 (stdI zs).1.2.2 (.int .i64 (stdI zs).2) w) := by
  have hz := fun w' (hx : Below w.heap.size w w') => areZones_c v zs 32 w' (hr.later hx)
  rw [show (32 : Int) - 1 = 31 from rfl] at hz
  cases t0 : zonesB zs 31 <;> rw [t0] at hz
  · have he : stdI zs = (([], [], []), 1) := by simp [stdI, t0]
    rw [he]
    obtain ⟨hn, ao, cap, b, off, rfl, hao, hcell⟩ := hr.open
    clear he hao hcell hr
    have HZ := Lib.hid hz; clear hz
    go_enter Try.func31, Try.ntmps31
    have b0 : Below w.heap.size w w := Below.refl _ _
    have z0 : w.heap.size ≤ w.heap.size := Nat.le_refl _
    go_wp2_with fail
    refine (HZ.out _ (by go_grown)).mono ?_
    rintro _ _ ⟨rfl, rfl⟩
    go_wp2
    refine bodyPost_ret (v := .tuple #[.agg #[.slice none 0 0, .slice none 0 0, .slice none 0 0], .int .i64 1]) (by simp [results, Try.results31, go_sem]) rfl ?_
    exact RetM2.nil (by go_grown)
  · have he : stdI zs = ((zs, stdK zs.length 5, base5), 0) := by simp [stdI, t0]
    rw [he]
    clear he
    obtain ⟨h1, h8⟩ := zonesB_len t0
    have how := fun w' (hx : Below w.heap.size w w') => CloneI_c v zs w' (hr.later hx) h1 (by omega)
    have hsz := fun w' (hx : Below w.heap.size w w') => size64_c v zs.length _ w' (hr.later hx)
    obtain ⟨hn, ao, cap, b, off, rfl, hao, hcell⟩ := hr.open
    clear hcell hao hr t0
    have HOW := Lib.hid how; clear how
    have HSZ := Lib.hid hsz; clear hsz
    have HZ := Lib.hid hz; clear hz
    have hsl := fun k => stdK_len zs.length k
    have hwl := fun k m => wgtK_len (zs.length : Int) k m
    have hss := fun k => (show stdK zs.length k ++ [wgtK (zs.length : Int) (k : Int) zs.length] = stdK zs.length (k + 1) from rfl)
    have hws := fun (k : Int) m => (show wgtK (zs.length : Int) k m ++ [wgt (zs.length : Int) k (m : Int)] = wgtK (zs.length : Int) k (m + 1) from rfl)
    have HSL := Lib.hid hsl; clear hsl
    have HWL := Lib.hid hwl; clear hwl
    have HSS := Lib.hid hss; clear hss
    have HWS := Lib.hid hws; clear hws
    generalize zs.length = n at *
    go_enter Try.func31, Try.ntmps31
    go_wp2_with (first | (go_at_call 102; refine (HZ.out _ (by go_grown)).mono ?_; rintro _ _ ⟨rfl, rfl⟩) | (go_at_call 103; refine (HSZ.out _ (by go_grown)).mono ?_; rintro _ _ ⟨rfl, rfl⟩))
    refine (HOW.out _ (by go_grown)).mono ?_
    rintro _ w1 ⟨x1, rfl, n1, r1⟩
    obtain ⟨a1, p1, rfl⟩ := own_shape n1
    go_wp2_with fail
    refine (fiveTimes_c _ _).mono ?_
    rintro _ w2 ⟨x2, rfl, n2, r2⟩
    obtain ⟨ab, pb, rfl⟩ := own_shape n2
    have hst := BldM.start (t2 := 44) (bs := base5) (hR := rfl) r1 r2 rfl (by simpa using n1) n2 (fun k hk => by simp [go_sem])
    have HST := Lib.hid hst; clear hst
    clear n1 n2
    have hx12 : w1.heap.size ≤ w2.heap.size := r2.size
    go_wp2_with fail
    have z1 : w.heap.size + 1 ≤ w1.heap.size := by have := r1.size; simpa using this
    go_loopw [20] (fun i wr => ∃ (k : Nat) (wv : Value) (us : List Value), k ≤ 5 ∧ i = .int .i64 k ∧ BldM w.heap.size (w2.heap.size) (.slice a1 zs.length p1) (.slice ab 5 pb) wv us zs (stdK n k) base5 w wr) (fun i _ => 5 - (intOf i).toNat)
    case atStart => exact ⟨0, nv, [], Nat.zero_le _, rfl, HST.out⟩
    case round =>
      obtain ⟨k, wv, us, hk, rfl, hB⟩ := hrel
      obtain ⟨aw, pw, rfl⟩ := own_shape hB.s.row
      have hlk := HSL.out k
      have hbel := hB.below
      have g0 := hB.g0
      have g1 := hB.g1
      have g2 := hB.g2
      have gf := hB.gf
      have hgs := hB.gs
      have hnG : ¬ (Value.slice aw (stdK n k).length pw).ownBlock = some (w2.heap.size) := fun e => by have := own_lo hB.s.row _ e; omega
      by_cases hlt : k < 5
      · have hltd : decide ((k : Int) < 5) = true := by simp; omega
        have hss := HSS.out k
        have pb9 := prod_bd h1 h8 hlt
        obtain ⟨pb0, pb1⟩ := pb9
        have HB := Lib.hid hB; clear hB
        have HS := Lib.hid hss; clear hss
        have HLK := Lib.hid hlk; clear hlk
        have HNG := Lib.hid hnG; clear hnG
        generalize wr = w3 at *
        go_wp2_with fail
        go_loopw [24, 7] (fun z row wr => ∃ (m : Nat), m ≤ n ∧ z = .int .i64 m ∧ OwnI w3.heap.size wr row (wgtK (n : Int) (k : Int) m) ∧ Below w3.heap.size w3 wr) (fun z _ _ => n - (intOf z).toNat)
        case atStart => exact ⟨0, Nat.zero_le _, rfl, World.ownsRow_nil _ _ _ _, by go_grown⟩
        case round =>
          obtain ⟨m, hm, rfl, ho, hb⟩ := hrel
          have hql := HWL.out (k : Int) m
          have hlo := own_lo ho
          have LO := Lib.hid hlo; clear hlo
          have HO := Lib.hid ho; clear ho
          by_cases hmn : m < n
          · have hws := HWS.out (k : Int) m
            have hqb : (wgtK (n : Int) (k : Int) m).length ≤ 1000000 := by rw [hql]; omega
            clear hql
            have HW := Lib.hid hws; clear hws
            generalize wgtK (n : Int) (k : Int) m = qs at *
            have fin : ∀ wq, Below w3.heap.size w3 wq → ∀ v9 w9, OwnI w3.heap.size w9 v9 (qs ++ [wgt (n : Int) (k : Int) (m : Int)]) → ∀ S, Only S wq w9 → (∀ b, S b → w3.heap.size ≤ b) → OwnI w3.heap.size w9 v9 (wgtK (n : Int) (k : Int) (m + 1)) ∧ Below w3.heap.size w3 w9 := fun wq hb v9 w9 o9 S q9 hS => ⟨by rw [← HW.out]; exact o9, Only.below hb q9 hb.size hS⟩
            have FIN := Lib.hid fin; clear fin
            by_cases hn1 : 1 < n
            · have hn1d : decide ((1 : Int) < (n : Int)) = true := by simp; omega
              have hwv : wgt (n : Int) (k : Int) (m : Int) = 1000 - rnd (900 * absI (4 * (m : Int) - (k : Int) * ((n : Int) - 1))) (4 * ((n : Int) - 1)) := by unfold wgt; rw [if_pos (by omega)]
              rw [hwv] at FIN
              clear hwv
              have hab : 0 ≤ absI (4 * (m : Int) - (k : Int) * ((n : Int) - 1)) ∧ absI (4 * (m : Int) - (k : Int) * ((n : Int) - 1)) ≤ 100 := by unfold absI; split <;> omega
              obtain ⟨hab0, hab1⟩ := hab
              have hrb := rnd_bd (900 * absI (4 * (m : Int) - (k : Int) * ((n : Int) - 1))) (4 * ((n : Int) - 1)) (by omega) (by omega) (by omega)
              obtain ⟨hrb0, hrb1⟩ := hrb
              go_wp2_with (first | (go_at_call 107; refine (abs_c _ _ (by omega) (by omega)).mono ?_; rintro _ _ ⟨rfl, rfl⟩) | (go_at_call 106; refine (nearest_c _ _ _ (by omega) (by omega) (by omega) (by omega)).mono ?_; rintro _ _ ⟨rfl, nq, rfl⟩; have ho2 := own_later HO.out (below_drewN (Below.refl _ _) nq); have HO2 := Lib.hid ho2; clear ho2; have hb2 := below_drewN hb nq) | (at_builtin; refine app_I (.tmp 44) (.tmp 46) _ _ _ _ _ (by rfl) (by rfl) (by rfl) (by rfl) HO2.out hqb hb2.size ?_; intro v9 w9 o9 q9; obtain ⟨o9', b9⟩ := FIN.out _ hb2 v9 w9 o9 _ q9 (fun b e => LO.out b e); clear o9 q9; have O9 := Lib.hid o9'; clear o9'))
              go_roundw
              case rel => exact ⟨m + 1, by omega, by go_num, O9.out, b9⟩
              case measure => simp [intOf]; omega
            · have hn1d : decide ((1 : Int) < (n : Int)) = false := by simp; omega
              have hwv : wgt (n : Int) (k : Int) (m : Int) = 1000 := by unfold wgt; rw [if_neg (by omega)]
              rw [hwv] at FIN
              clear hwv
              go_wp2_with (at_builtin; refine app_I (.tmp 44) (.tmp 46) _ _ _ _ _ (by rfl) (by rfl) (by rfl) (by rfl) HO.out hqb hb.size ?_; intro v9 w9 o9 q9; obtain ⟨o9', b9⟩ := FIN.out _ hb v9 w9 o9 _ q9 (fun b e => LO.out b e); clear o9 q9; have O9 := Lib.hid o9'; clear o9')
              go_roundw
              case rel => exact ⟨m + 1, by omega, by go_num, O9.out, b9⟩
              case measure => simp [intOf]; omega
          · obtain rfl : m = n := by omega
            obtain ⟨ar, pr, rfl⟩ := own_shape HO.out
            have c1 := below_cell hb g1
            have cf : ∀ j, wr.frozen? ⟨w2.heap.size, j, none⟩ = false := fun j => (hb.frozen (p := ⟨w2.heap.size, j, none⟩) hgs).trans (gf j)
            have hgs2 : w2.heap.size < wr.heap.size := Nat.lt_of_lt_of_le hgs hb.size
            have a1 := fun o => alloc_cell o c1
            have hsr := HB.out.s.row
            have hsl1 : (stdK m k).length ≤ 1000000 := by rw [HLK.out]; omega
            have hrow := own_later hsr hb
            have HROW := Lib.hid hrow; clear hrow
            clear hsr hql
            go_wp2_with (at_builtin; refine app_SS (.tmp 50) (.tmp 52) _ (w2.heap.size + 1) _ _ us ar _ pr (by rfl) (by rfl) (by rfl) (by rfl) HROW.out hsl1 (by omega) ?_; intro v9 w9 o9 q9 hat; obtain ⟨a9, c9, rfl⟩ := own_shape o9; have d1 := cell_only q9 c1 HNG.out; have d2 := (frozen_only q9 (p := ⟨w2.heap.size, 1, none⟩) hgs2 HNG.out).trans (cf 1); have hnx := HB.out.next (row := wgtK (m : Int) (k : Int) m) hb HO.out o9 q9 hat; have HNX := Lib.hid hnx; clear hnx; clear o9 q9 hat)
            go_roundw
            case rel => exact ⟨k + 1, _, _, by omega, by go_num, by rw [← HS.out]; exact HNX.out⟩
            case measure => simp [intOf]; omega
      · obtain rfl : k = 5 := by omega
        have r0 := hB.r0
        have r1' := hB.r1
        have r2 := hB.r2
        have rf := hB.rf
        have HB := Lib.hid hB; clear hB
        have HLK := Lib.hid hlk; clear hlk
        go_wp2
        refine bodyPost_ret (v := .tuple #[.agg #[.slice a1 zs.length p1, .slice aw (stdK n 5).length pw, .slice ab 5 pb], .int .i64 0]) (by simp [results, Try.results31, go_sem, r0, r1', r2]) rfl ?_
        exact ⟨_, _, _, us, rfl, HB.out.ownR _ _ _, HB.out.belowR _ _ _⟩

end Go.Proofs.Ytmickkodcclocaa
