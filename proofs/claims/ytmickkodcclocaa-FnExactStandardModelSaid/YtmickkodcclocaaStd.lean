/- The standard model of some zones: plain lists; both functions' walks. -/
import Derived.Test.YtmickkodcclocaaGF
import Derived.Test.YtmickkodcclocaaGst
import Derived.Test.YtmickkodcclocaaSSApp
import Derived.Test.YtmickkodcclocaaVm
namespace Go.Proofs.Ytmickkodcclocaa
set_option linter.unusedVariables false
open Go.RowKit Go.Proofs.Bell Go.BigFrame

def wgt (n k z : Int) : Int := if 1 < n then 1000 - rnd (900 * absI (4 * z - k * (n - 1))) (4 * (n - 1)) else 1000
def wgtK (n k : Int) : Nat → List Int
  | 0 => []
  | m + 1 => wgtK n k m ++ [wgt n k (m : Int)]
theorem wgtK_len (n k : Int) : ∀ m, (wgtK n k m).length = m
  | 0 => rfl
  | m + 1 => by rw [wgtK, List.length_append, wgtK_len n k m]; rfl
def stdK (n : Nat) : Nat → List (List Int)
  | 0 => []
  | k + 1 => stdK n k ++ [wgtK (n : Int) (k : Int) n]
theorem stdK_len (n : Nat) : ∀ k, (stdK n k).length = k
  | 0 => rfl
  | k + 1 => by rw [stdK, List.length_append, stdK_len n k]; rfl
def base5 : List Int := [1000, 1000, 1000, 1000, 1000]
theorem prod_bd {n k : Nat} (h1 : 1 ≤ n) (h8 : n ≤ 8) (hk : k < 5) : (0 : Int) ≤ (k : Int) * ((n : Int) - 1) ∧ (k : Int) * ((n : Int) - 1) ≤ 28 := by
  have := mul_le_of (a := (k : Int)) (b := (n : Int) - 1) (A := 4) (B := 7) (by omega) (by omega) (by omega) (by omega)
  omega

theorem BldM.start {w w1 w2 : World} {zv bv : Value} {zs bs : List Int} {R G : Nat} {t1 t2 : TypeId} (hR : w.heap.size = R) (hb1 : Below (w.alloc (.cells #[nv, nv, nv] t1)).heap.size (w.alloc (.cells #[nv, nv, nv] t1)) w1) (hb2 : Below w1.heap.size w1 w2) (hG : w2.heap.size = G)
    (hz : OwnI (R + 1) w1 zv zs) (hb : OwnI w1.heap.size w2 bv bs) (ht : ∀ k, k < 3 → ((w.alloc (.cells #[nv, nv, nv] t1)).frozen? ⟨R, k, none⟩ = false)) :
    BldM R G zv bv nv [] zs [] bs w (w2.alloc (.cells #[zv, nv, bv] t2)) := by
  subst hR hG
  have s1 : w.heap.size + 1 ≤ w1.heap.size := by have := hb1.size; simpa using this
  have s2 := hb2.size
  have hbA : Below (w.alloc (.cells #[nv, nv, nv] t1)).heap.size (w.alloc (.cells #[nv, nv, nv] t1)) (w2.alloc (.cells #[zv, nv, bv] t2)) := (hb1.trans (hb2.mono hb1.size)).alloc (Nat.le_trans hb1.size hb2.size) _
  have hbB : Below w1.heap.size w1 (w2.alloc (.cells #[zv, nv, bv] t2)) := hb2.alloc hb2.size _
  have hbC : Below w2.heap.size w2 (w2.alloc (.cells #[zv, nv, bv] t2)) := (Below.refl _ _).alloc (Nat.le_refl _) _
  exact ⟨Below.trans ((Below.refl _ _).alloc (Nat.le_refl _) _) (hbA.mono (by simp)), Nat.le_refl _, by omega, by simp,
    below_cell hbA (p := ⟨w.heap.size, 0, none⟩) (by simp [go_sem]), below_cell hbA (p := ⟨w.heap.size, 1, none⟩) (by simp [go_sem]), below_cell hbA (p := ⟨w.heap.size, 2, none⟩) (by simp [go_sem]),
    fun j => (hbA.frozen (p := ⟨w.heap.size, j, none⟩) (by simp)).trans (by simp [go_sem]), by simp [go_sem], by simp [go_sem], by simp [go_sem], fun j => by simp [go_sem],
    own_later hz hbB, fun b e => by have := own_lt hz b e; omega, own_base (own_later hb hbC) s1, own_lt hb, fun b e e' => by have := own_lt hz b e; have := own_lo hb b e'; omega, OwnSS.empty _ _⟩

theorem l00MaxAbs_c (d : Int) (w : World) : Calls Try.prog 175 #[.int .i64 d, .int .i64 (-d)] w (RetS (.int .i64 (absI d)) w) := by
  have h : max d (-d) = absI d := by unfold absI; split <;> omega
  rw [← h]; exact l00Max_c d (-d) w

set_option maxRecDepth 100000 in
set_option maxHeartbeats 3200000 in
theorem l08Standard_c (v : Value) (zs : List Int) (w : World) (hr : Rd w v zs.length (ints zs)) (h1 : 1 ≤ zs.length) (h8 : zs.length ≤ 8) :
    Calls Try.prog 101 #[v] w (RetOwnM zs (stdK zs.length 5) base5 w) := by
  have how := fun w' (hx : Below w.heap.size w w') => l00Own_c v zs w' (hr.later hx) h1 (by omega)
  obtain ⟨hn, ao, cap, b, off, rfl, hao, hcell⟩ := hr.open
  clear hcell hao hr
  have HOW := Lib.hid how; clear how
  have hsl := fun k => stdK_len zs.length k
  have hwl := fun k m => wgtK_len (zs.length : Int) k m
  have hss := fun k => (show stdK zs.length k ++ [wgtK (zs.length : Int) (k : Int) zs.length] = stdK zs.length (k + 1) from rfl)
  have hws := fun (k : Int) m => (show wgtK (zs.length : Int) k m ++ [wgt (zs.length : Int) k (m : Int)] = wgtK (zs.length : Int) k (m + 1) from rfl)
  have HSL := Lib.hid hsl; clear hsl
  have HWL := Lib.hid hwl; clear hwl
  have HSS := Lib.hid hss; clear hss
  have HWS := Lib.hid hws; clear hws
  generalize zs.length = n at *
  go_enter Try.func101, Try.ntmps101
  go_wp2_with fail
  refine (HOW.out _ (by go_grown)).mono ?_
  rintro _ w1 ⟨x1, rfl, n1, r1⟩
  obtain ⟨a1, p1, rfl⟩ := own_shape n1
  have hst := BldM.start (t2 := 44) (bv := .slice (some ⟨w1.heap.size, 0, none⟩) 5 5) (bs := base5) (hR := rfl) r1 ((Below.refl _ _).alloc (Nat.le_refl _) _) (by simp; rfl) (by simpa using n1) (own_five w1 1000 1000 1000 1000 1000 _ (Nat.le_refl _)) (fun k hk => by simp [go_sem])
  have HST := Lib.hid hst; clear hst
  clear n1
  go_wp2_with fail
  have z1 : w.heap.size + 1 ≤ w1.heap.size := by have := r1.size; simpa using this
  go_loopw [5] (fun i wr => ∃ (k : Nat) (wv : Value) (us : List Value), k ≤ 5 ∧ i = .int .i64 k ∧ BldM w.heap.size (w1.heap.size + 1) (.slice a1 zs.length p1) (.slice (some ⟨w1.heap.size, 0, none⟩) 5 5) wv us zs (stdK n k) base5 w wr) (fun i _ => 5 - (intOf i).toNat)
  case atStart => exact ⟨0, nv, [], Nat.zero_le _, rfl, HST.out⟩
  case round =>
    obtain ⟨k, wv, us, hk, rfl, hB⟩ := hrel
    obtain ⟨aw, pw, rfl⟩ := own_shape hB.s.row
    have hlk := HSL.out k
    have hbel := hB.below
    have g0 := hB.g0
    have g1 := hB.g1
    have g2 := hB.g2
    have gf := hB.gf
    have hgs := hB.gs
    have hnG : ¬ (Value.slice aw (stdK n k).length pw).ownBlock = some (w1.heap.size + 1) := fun e => by have := own_lo hB.s.row _ e; omega
    by_cases hlt : k < 5
    · have hltd : decide ((k : Int) < 5) = true := by simp; omega
      have hss := HSS.out k
      have pb := prod_bd h1 h8 hlt
      obtain ⟨pb0, pb1⟩ := pb
      have HB := Lib.hid hB; clear hB
      have HS := Lib.hid hss; clear hss
      have HLK := Lib.hid hlk; clear hlk
      have HNG := Lib.hid hnG; clear hnG
      generalize wr = w3 at *
      go_wp2_with fail
      go_loopw [7, 6] (fun z row wr => ∃ (m : Nat), m ≤ n ∧ z = .int .i64 m ∧ OwnI w3.heap.size wr row (wgtK (n : Int) (k : Int) m) ∧ Below w3.heap.size w3 wr) (fun z _ _ => n - (intOf z).toNat)
      case atStart => exact ⟨0, Nat.zero_le _, rfl, own_empty _ _ _ _ (Nat.le_refl _), by go_grown⟩
      case round =>
        obtain ⟨m, hm, rfl, ho, hb⟩ := hrel
        have hql := HWL.out (k : Int) m
        have hlo := own_lo ho
        have LO := Lib.hid hlo; clear hlo
        have HO := Lib.hid ho; clear ho
        by_cases hmn : m < n
        · have hws := HWS.out (k : Int) m
          have hqb : (wgtK (n : Int) (k : Int) m).length ≤ 1000000 := by rw [hql]; omega
          clear hql
          have HW := Lib.hid hws; clear hws
          generalize wgtK (n : Int) (k : Int) m = qs at *
          have fin : ∀ wq, Below w3.heap.size w3 wq → ∀ v9 w9, OwnI w3.heap.size w9 v9 (qs ++ [wgt (n : Int) (k : Int) (m : Int)]) → ∀ S, Only S wq w9 → (∀ b, S b → w3.heap.size ≤ b) → OwnI w3.heap.size w9 v9 (wgtK (n : Int) (k : Int) (m + 1)) ∧ Below w3.heap.size w3 w9 := fun wq hb v9 w9 o9 S q9 hS => ⟨by rw [← HW.out]; exact o9, Only.below hb q9 hb.size hS⟩
          have FIN := Lib.hid fin; clear fin
          by_cases hn1 : 1 < n
          · have hn1d : decide ((1 : Int) < (n : Int)) = true := by simp; omega
            have hwv : wgt (n : Int) (k : Int) (m : Int) = 1000 - rnd (900 * absI (4 * (m : Int) - (k : Int) * ((n : Int) - 1))) (4 * ((n : Int) - 1)) := by unfold wgt; rw [if_pos (by omega)]
            rw [hwv] at FIN
            clear hwv
            have hab : 0 ≤ absI (4 * (m : Int) - (k : Int) * ((n : Int) - 1)) ∧ absI (4 * (m : Int) - (k : Int) * ((n : Int) - 1)) ≤ 100 := by unfold absI; split <;> omega
            obtain ⟨hab0, hab1⟩ := hab
            have hrb := rnd_bd (900 * absI (4 * (m : Int) - (k : Int) * ((n : Int) - 1))) (4 * ((n : Int) - 1)) (by omega) (by omega) (by omega)
            obtain ⟨hrb0, hrb1⟩ := hrb
            go_wp2_with (first | (go_at_call 175; refine (l00MaxAbs_c _ _).mono ?_; rintro _ _ ⟨rfl, rfl⟩) | (go_at_call 165; refine (l01Div_c _ _ _ (by omega) (by omega) (by omega) (by omega)).mono ?_; rintro _ _ ⟨rfl, rfl⟩) | (at_builtin; refine app_I (.tmp 46) (.tmp 48) _ _ _ _ _ (by rfl) (by rfl) (by rfl) (by rfl) HO.out hqb hb.size ?_; intro v9 w9 o9 q9; obtain ⟨o9', b9⟩ := FIN.out _ hb v9 w9 o9 _ q9 (fun b e => LO.out b e); clear o9 q9; have O9 := Lib.hid o9'; clear o9'))
            go_roundw
            case rel => exact ⟨m + 1, by omega, by go_num, O9.out, b9⟩
            case measure => simp [intOf]; omega
          · have hn1d : decide ((1 : Int) < (n : Int)) = false := by simp; omega
            have hwv : wgt (n : Int) (k : Int) (m : Int) = 1000 := by unfold wgt; rw [if_neg (by omega)]
            rw [hwv] at FIN
            clear hwv
            go_wp2_with (at_builtin; refine app_I (.tmp 46) (.tmp 48) _ _ _ _ _ (by rfl) (by rfl) (by rfl) (by rfl) HO.out hqb hb.size ?_; intro v9 w9 o9 q9; obtain ⟨o9', b9⟩ := FIN.out _ hb v9 w9 o9 _ q9 (fun b e => LO.out b e); clear o9 q9; have O9 := Lib.hid o9'; clear o9')
            go_roundw
            case rel => exact ⟨m + 1, by omega, by go_num, O9.out, b9⟩
            case measure => simp [intOf]; omega
        · obtain rfl : m = n := by omega
          obtain ⟨ar, pr, rfl⟩ := own_shape HO.out
          have c1 := below_cell hb g1
          have cf : ∀ j, wr.frozen? ⟨w1.heap.size + 1, j, none⟩ = false := fun j => (hb.frozen (p := ⟨w1.heap.size + 1, j, none⟩) hgs).trans (gf j)
          have hgs2 : w1.heap.size + 1 < wr.heap.size := Nat.lt_of_lt_of_le hgs hb.size
          have a1 := fun o => alloc_cell o c1
          have hsr := HB.out.s.row
          have hsl1 : (stdK m k).length ≤ 1000000 := by rw [HLK.out]; omega
          have hrow := own_later hsr hb
          have HROW := Lib.hid hrow; clear hrow
          clear hsr hql
          go_wp2_with (at_builtin; refine app_SS (.tmp 51) (.tmp 53) _ (w1.heap.size + 1 + 1) _ _ us ar _ pr (by rfl) (by rfl) (by rfl) (by rfl) HROW.out hsl1 (by omega) ?_; intro v9 w9 o9 q9 hat; obtain ⟨a9, c9, rfl⟩ := own_shape o9; have d1 := cell_only q9 c1 HNG.out; have d2 := (frozen_only q9 (p := ⟨w1.heap.size + 1, 1, none⟩) hgs2 HNG.out).trans (cf 1); have hnx := HB.out.next (row := wgtK (m : Int) (k : Int) m) hb HO.out o9 q9 hat; have HNX := Lib.hid hnx; clear hnx; clear o9 q9 hat)
          go_roundw
          case rel => exact ⟨k + 1, _, _, by omega, by go_num, by rw [← HS.out]; exact HNX.out⟩
          case measure => simp [intOf]; omega
    · obtain rfl : k = 5 := by omega
      have r0 := hB.r0
      have r1' := hB.r1
      have r2 := hB.r2
      have rf := hB.rf
      have HB := Lib.hid hB; clear hB
      have HLK := Lib.hid hlk; clear hlk
      go_wp2
      refine bodyPost_ret (v := .agg #[.slice a1 zs.length p1, .slice aw (stdK n 5).length pw, .slice (some ⟨w1.heap.size, 0, none⟩) 5 5]) (by simp [results, Try.results101, go_sem, r0, r1', r2]) rfl ?_
      exact ⟨_, _, _, us, rfl, HB.out.ownR _ _ _, HB.out.belowR _ _ _⟩

end Go.Proofs.Ytmickkodcclocaa
