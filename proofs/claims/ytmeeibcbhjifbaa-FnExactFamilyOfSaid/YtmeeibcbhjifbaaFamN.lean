/- The laws' marks on lists of profiles: kept, and found again. -/
import Derived.Test.YtmeeibcbhjifbaaFamM
namespace Go.Proofs.Ytmeeibcbhjifbaa
set_option linter.unusedVariables false
open Go.RowKit Go.Proofs.Bell Go.BigFrame

/-- how far the marks of the first `k` profiles go -/
def stepP (ps : List PR) : Nat → Nat
  | 0 => 0
  | k + 1 => stepP ps k + 1 + 3 * (ps.getD k nr).2.length
def SzPS (ps : List PR) : Nat := ps.length + stepP ps ps.length
theorem stepP_mono (ps : List PR) : ∀ n k, stepP ps k ≤ stepP ps (k + n)
  | 0, k => Nat.le_refl _
  | n + 1, k => by have := stepP_mono ps n k; rw [← Nat.add_assoc, stepP]; omega
theorem stepP_le (ps : List PR) {k n : Nat} (h : k ≤ n) : stepP ps k ≤ stepP ps n := by
  have := stepP_mono ps (n - k) k
  rwa [show k + (n - k) = n by omega] at this
def mkPS (k0 : Nat) (ps : List PR) : List PR := (List.range ps.length).map fun j => (mkText (k0 + stepP ps j), mk3 ((k0 + stepP ps j + 1 : Nat) : Int) (ps.getD j nr).2.length)
theorem mkPS_len (k0 : Nat) (ps : List PR) : (mkPS k0 ps).length = ps.length := by simp [mkPS]
theorem mkPS_get (k0 : Nat) (ps : List PR) {j : Nat} (h : j < ps.length) : (mkPS k0 ps).getD j nr = (mkText (k0 + stepP ps j), mk3 ((k0 + stepP ps j + 1 : Nat) : Int) (ps.getD j nr).2.length) := by
  simp [mkPS, List.getD, h]
/-- names and values, the first `k` names marked -/
def upR (k0 : Nat) (ps : List PR) (us : List (ByteArray × Value)) : Nat → List (ByteArray × Value)
  | 0 => us
  | k + 1 => (upR k0 ps us k).set k (mkText (k0 + stepP ps k), (us.getD k nd).2)
theorem upR_len (k0 : Nat) (ps : List PR) (us : List (ByteArray × Value)) : ∀ k, (upR k0 ps us k).length = us.length
  | 0 => rfl
  | k + 1 => by rw [upR, List.length_set, upR_len k0 ps us k]
theorem upR_snd (k0 : Nat) (ps : List PR) (us : List (ByteArray × Value)) (j : Nat) : ∀ k, ((upR k0 ps us k).getD j nd).2 = (us.getD j nd).2
  | 0 => rfl
  | k + 1 => by
    have ih := upR_snd k0 ps us j k
    rw [upR]
    rcases Nat.lt_or_ge k us.length with hk | hk
    · by_cases hj : j = k
      · subst hj
        simp [List.getD, List.getElem?_set_self (show j < (upR k0 ps us j).length by rw [upR_len]; exact hk)]
      · rw [← ih]
        simp [List.getD, List.getElem?_set_ne (Ne.symm hj)]
    · rw [List.set_eq_of_length_le (by rw [upR_len]; exact hk)]
      exact ih
theorem upR_fst (k0 : Nat) (ps : List PR) (us : List (ByteArray × Value)) {j : Nat} (hj : j < us.length) : ∀ k, j < k → ((upR k0 ps us k).getD j nd).1 = mkText (k0 + stepP ps j)
  | 0, h => absurd h (Nat.not_lt_zero _)
  | k + 1, h => by
    rw [upR]
    by_cases e : j = k
    · subst e
      simp [List.getD, List.getElem?_set_self (show j < (upR k0 ps us j).length by rw [upR_len]; exact hj)]
    · rw [← upR_fst k0 ps us hj k (by omega)]
      simp [List.getD, List.getElem?_set_ne (Ne.symm e)]
theorem pcells_cons (p : ByteArray × Value) (us : List (ByteArray × Value)) : pcells (p :: us) = .string p.1 :: p.2 :: pcells us := by simp [pcells]
theorem pcells_set : ∀ {us : List (ByteArray × Value)} {k : Nat} (t : ByteArray), k < us.length → (pcells us).set (k * 2) (.string t) = pcells (us.set k (t, (us.getD k nd).2))
  | [], _, _, h => by simp at h
  | p :: us, 0, t, _ => by simp [pcells_cons]
  | p :: us, k + 1, t, h => by
    rw [show (k + 1) * 2 = k * 2 + 1 + 1 by omega, pcells_cons, List.set_cons_succ, List.set_cons_succ, pcells_set (k := k) t (by simpa using h), List.set_cons_succ, pcells_cons]
    simp
def rowR (ps : List PR) (k0 k j : Nat) : List (Int × Int × Int) := if j < k then mk3 ((k0 + stepP ps j + 1 : Nat) : Int) (ps.getD j nr).2.length else (ps.getD j nr).2
theorem rowR_zero (ps : List PR) (k0 j : Nat) : rowR ps k0 0 j = (ps.getD j nr).2 := by simp [rowR]
theorem rowR_same (ps : List PR) (k0 k : Nat) : rowR ps k0 k k = (ps.getD k nr).2 := by simp [rowR]
theorem rowR_new (ps : List PR) (k0 k : Nat) : rowR ps k0 (k + 1) k = mk3 ((k0 + stepP ps k + 1 : Nat) : Int) (ps.getD k nr).2.length := by simp [rowR]
theorem rowR_other (ps : List PR) (k0 : Nat) {k j : Nat} (h : j ≠ k) : rowR ps k0 (k + 1) j = rowR ps k0 k j := by
  unfold rowR
  by_cases h1 : j < k
  · rw [if_pos h1, if_pos (by omega)]
  · rw [if_neg h1, if_neg (by omega)]

def PSMarked (lo hi : Nat) (v : Value) (us : List (ByteArray × Value)) (ps : List PR) (k0 : Nat) (w : World) (e : Ending) (w' : World) : Prop :=
  e = .returned (.int .i64 ((k0 + stepP ps ps.length : Nat) : Int)) ∧ OwnPS lo hi w' v (upR k0 ps us ps.length) (mkPS k0 ps) ∧ Only (fun b => lo ≤ b ∧ b < hi) w w'

set_option maxRecDepth 100000 in
set_option maxHeartbeats 3200000 in
theorem markProfileS_c (lo hi : Nat) (v : Value) (us : List (ByteArray × Value)) (ps : List PR) (k0 : Nat) (w : World) (h : OwnPS lo hi w v us ps) (hhi : hi ≤ w.heap.size) (hk1 : k0 + SzPS ps ≤ 1000000) :
    Calls Try.prog 14 #[v, .int .i64 k0] w (PSMarked lo hi v us ps k0 w) := by
  have hlen := h.len
  have hrow := h.row
  have hcd := h.cd
  have hdis := h.dis
  have htop := h.top
  have hown := h.own
  have hlo := own_lo hrow
  have hrh := h.rowh
  have hle := fun k (hk : k ≤ ps.length) => stepP_le ps hk
  have hst := fun k => (show stepP ps (k + 1) = stepP ps k + 1 + 3 * (ps.getD k nr).2.length from rfl)
  have hdone : ∀ w', w'.ownsRow lo 31 2 v ps.length (pcells (upR k0 ps us ps.length)) → (∀ j, j < ps.length → OwnR lo w' (us.getD j nd).2 (rowR ps k0 ps.length j)) → OwnPS lo hi w' v (upR k0 ps us ps.length) (mkPS k0 ps) := fun w' h1 h2 =>
    ⟨by rw [upR_len, mkPS_len]; exact h.len, by rw [mkPS_len]; exact h1, h.rowh, fun j hj => by rw [mkPS_len] at hj; rw [show (mkPS k0 ps).getD j (⟨#[]⟩, []) = _ from mkPS_get k0 ps hj]; exact upR_fst k0 ps us (by omega) _ hj,
     fun j hj => by rw [mkPS_len] at hj; rw [upR_snd, show (mkPS k0 ps).getD j (⟨#[]⟩, []) = _ from mkPS_get k0 ps hj]; have := h2 j hj; rwa [rowR, if_pos hj] at this,
     fun j hj => by rw [mkPS_len] at hj; rw [upR_snd]; exact h.top j hj, fun i j hi hj => by rw [mkPS_len] at hj; rw [upR_snd, upR_snd]; exact h.dis i j hi hj, fun j hj => by rw [mkPS_len] at hj; rw [upR_snd]; exact h.cd j hj⟩
  have hul := upR_len k0 ps us
  have hus := fun k => (show (upR k0 ps us k).set k (mkText (k0 + stepP ps k), (us.getD k nd).2) = upR k0 ps us (k + 1) from rfl)
  unfold PSMarked
  unfold SzPS at hk1
  generalize hnw : ps.length = n at *
  obtain ⟨ao, cap, g, hv, hao, hvb⟩ := own_open hrow
  subst hv
  have HVB := Lib.hid hvb; clear hvb
  have HCD := Lib.hid hcd; clear hcd
  have HDIS := Lib.hid hdis; clear hdis
  have HTOP := Lib.hid htop; clear htop
  have HOWN := Lib.hid hown; clear hown
  have HLE := Lib.hid hle; clear hle
  have HST := Lib.hid hst; clear hst
  have HNW := Lib.hid hnw; clear hnw
  have HROW := Lib.hid hrow; clear hrow
  have HLO := Lib.hid hlo; clear hlo
  have HRH := Lib.hid hrh; clear hrh
  have HDONE := Lib.hid hdone; clear hdone
  have HUL := Lib.hid hul; clear hul
  have HUS := Lib.hid hus; clear hus
  have HLEN := Lib.hid hlen; clear hlen
  clear h
  go_enter Try.func14, Try.ntmps14
  go_wp2_with fail
  go_loopw [5, 1] (fun i q wr => ∃ (k : Nat), k ≤ n ∧ i = .int .i64 k ∧ q = .int .i64 ((k0 + stepP ps k : Nat) : Int) ∧ Only (fun b => lo ≤ b ∧ b < hi) w wr ∧ (∀ j, j < n → OwnR lo wr (us.getD j nd).2 (rowR ps k0 k j)) ∧ wr.ownsRow lo 31 2 (.slice ao n cap) n (pcells (upR k0 ps us k))) (fun i _ _ => n - (intOf i).toNat)
  case atStart => exact ⟨0, Nat.zero_le _, rfl, by simp [stepP], Only.refl _ _, fun j hj => by rw [rowR_zero]; exact HOWN.out j hj, HROW.out⟩
  case round =>
    obtain ⟨k, hk, rfl, rfl, ho, hj, hr⟩ := hrel
    have hsz := ho.size
    by_cases hlt : k < n
    · obtain rfl : ao = some ⟨g, 0, none⟩ := hao (by omega)
      have hg := HLO.out g rfl
      have hgh := HRH.out g rfl
      have hix := ix (P := Try.prog) (T := 26) (n := n) (cap := cap) Try.underlying26 cells_PS has_PS (ao := some ⟨g, 0, none⟩) (b := g) (off := 0) (fun _ => rfl) (k := k) hlt _ rfl
      rw [Nat.zero_add] at hix
      have hku : k < (upR k0 ps us k).length := by rw [HUL.out, HLEN.out]; exact hlt
      have hc0 : wr.cell? ⟨g, k * 2, none⟩ = some (.string ((upR k0 ps us k).getD k nd).1) := (World.ownsRow.cellAt hr (k * 2) (by omega)).trans (pcells_at hku).1
      have hc1 : wr.cell? ⟨g, k * 2 + 1, none⟩ = some (us.getD k nd).2 := (World.ownsRow.cellAt hr (k * 2 + 1) (by omega)).trans ((pcells_at hku).2.trans (by rw [upR_snd]))
      have hfz := World.ownsRow.frozenAt hr (k * 2)
      have h1 := HLE.out k (by omega)
      have h2 := HLE.out (k + 1) (by omega)
      have h3 := HST.out k
      have hjk := hj k hlt
      rw [rowR_same] at hjk
      have hmt := fun w' => markText_c (k0 + stepP ps k) w' (by omega)
      have hmr := fun W2 (hx : OwnR lo W2 (us.getD k nd).2 (ps.getD k nr).2) => markRingS_c (us.getD k nd).2 (ps.getD k nr).2.length lo (((k0 + stepP ps k : Nat) : Int) + 1) (trips (ps.getD k nr).2) W2 hx (by omega) (by omega) (by omega)
      have hq3 : ((k0 + stepP ps k : Nat) : Int) + 1 + 3 * ((ps.getD k nr).2.length : Int) = ((k0 + stepP ps (k + 1) : Nat) : Int) := by rw [h3]; push_cast; omega
      rw [hq3] at hmr
      have hk00 : (((k0 + stepP ps k : Nat) : Int) + 1) = ((k0 + stepP ps k + 1 : Nat) : Int) := by push_cast; rfl
      have hnx : ∀ w1 W2 w', Below wr.heap.size wr w1 → W2 = w1.setCell ⟨g, k * 2, none⟩ (.string (mkText (k0 + stepP ps k))) → w'.ownsRow lo 135 3 (us.getD k nd).2 (ps.getD k nr).2.length (trips (mk3 (((k0 + stepP ps k : Nat) : Int) + 1) (ps.getD k nr).2.length)) → Only (fun b => (us.getD k nd).2.ownBlock = some b) W2 w' →
          Only (fun b => lo ≤ b ∧ b < hi) w w' ∧ (∀ j, j < n → OwnR lo w' (us.getD j nd).2 (rowR ps k0 (k + 1) j)) ∧ w'.ownsRow lo 31 2 (.slice (some ⟨g, 0, none⟩) n cap) n (pcells (upR k0 ps us (k + 1))) := fun w1 W2 w' q1 e m q2 => by
        have on2 : Only (fun b => lo ≤ b ∧ b < hi) w W2 := by rw [e]; exact (ho.trans (Only.of_below q1)).setCell (p := ⟨g, k * 2, none⟩) ⟨hg, hgh⟩ _
        have r2 : W2.ownsRow lo 31 2 (.slice (some ⟨g, 0, none⟩) n cap) n (pcells (upR k0 ps us (k + 1))) := by
          have := (World.ownsRow.stored (own_later hr q1) (k * 2) (.string (mkText (k0 + stepP ps k)))).1
          rw [pcells_set _ hku, upR_snd, HUS.out k] at this
          rw [e]; exact this
        have oj : ∀ j, j < n → OwnR lo W2 (us.getD j nd).2 (rowR ps k0 k j) := fun j hjn => by
          rw [e]; exact own_set (own_later (hj j hjn) q1) (fun b hb => by show g ≠ b; exact fun e2 => HCD.out j hjn b hb (by rw [← e2]; rfl)) _
        refine ⟨on2.trans (q2.mono fun b hb => ⟨own_lo (HOWN.out k hlt) b hb, HTOP.out k hlt b hb⟩), fun j hjn => ?_, own_only r2 q2 (fun b hb hS => HCD.out k hlt b hS hb)⟩
        rcases Nat.lt_trichotomy j k with h6 | rfl | h6
        · rw [rowR_other _ _ (by omega)]
          exact own_only (oj j hjn) q2 (fun b hb hS => HDIS.out j k h6 hlt b hS hb)
        · rw [rowR_new, ← hk00]; unfold OwnR; rw [mk3_len]; exact m
        · rw [rowR_other _ _ (by omega)]
          exact own_only (oj j hjn) q2 (fun b hb hS => HDIS.out k j h6 hjn b hb hS)
      have hjs : ∀ w1, Below wr.heap.size wr w1 → ∀ t, OwnR lo (w1.setCell ⟨g, k * 2, none⟩ t) (us.getD k nd).2 (ps.getD k nr).2 := fun w1 q1 t => own_set (own_later hjk q1) (fun b hb => by show g ≠ b; exact fun e2 => HCD.out k hlt b hb (by rw [← e2]; rfl)) t
      have hgw : g < wr.heap.size := by have := World.block_lt_of_cell? _ _ hc0; exact this
      have hkb : k0 + stepP ps k ≤ 1000000 := by omega
      have hkz : 0 ≤ ((k0 + stepP ps k : Nat) : Int) := by omega
      have HMT := Lib.hid hmt; clear hmt
      have HMR := Lib.hid hmr; clear hmr
      have HNX := Lib.hid hnx; clear hnx
      have HJS := Lib.hid hjs; clear hjs
      have HQ3 := Lib.hid hq3; clear hq3
      have HK00 := Lib.hid hk00; clear hk00
      clear hr hj hjk h3 ho hku
      generalize us.getD k nd = uk at *
      generalize ((upR k0 ps us k).getD k nd).1 = old at *
      generalize k0 + stepP ps k = K at *
      go_wp2_with fail
      refine (HMT.out _).mono ?_
      rintro _ w1 ⟨rfl, q1⟩
      have e0 := below_cell q1 hc0
      have e1 := below_cell q1 hc1
      have ef := (q1.frozen (p := ⟨g, k * 2, none⟩) hgw).trans hfz
      have e2 : ∀ t, (w1.setCell ⟨g, k * 2, none⟩ t).cell? ⟨g, k * 2 + 1, none⟩ = some uk.2 := fun t => by rw [World.cell?_setCell_other _ _ _ _ (by simp)]; exact e1
      clear hc0 hc1 hfz e1
      have hwz : IntKind.i64.wrap ((K : Int) + 1) = (K : Int) + 1 := IntWalk.i64_in _ (by omega)
      go_wp2_with fail
      obtain ⟨W2, hW2⟩ : ∃ x, x = w1.setCell ⟨g, k * 2, none⟩ (.string (mkText K)) := ⟨_, rfl⟩
      rw [← hW2]
      have hmr := HMR.out W2 (by rw [hW2]; exact HJS.out w1 q1 _)
      have hnx := fun w' m q2 => HNX.out w1 W2 w' q1 hW2 m q2
      clear e0 e2 ef hwz HNX HMR HJS hW2
      have HNX := Lib.hid hnx; clear hnx
      refine hmr.mono ?_
      rintro _ w3 ⟨rfl, m3, q3⟩
      have hfin := HNX.out w3 m3 q3
      have HFIN := Lib.hid hfin; clear hfin
      clear m3 q3 HNX hmr
      go_wp2
      go_roundw
      case rel => exact ⟨k + 1, by omega, by go_num, rfl, HFIN.out⟩
      case measure => simp [intOf]; omega
    · obtain rfl : k = n := by omega
      have hd := HDONE.out wr hr hj
      have HD := Lib.hid hd; clear hd
      have HO := Lib.hid ho; clear ho
      clear hj hr
      go_wp2
      go_returns
      exact ⟨rfl, HD.out, HO.out⟩

end Go.Proofs.Ytmeeibcbhjifbaa
