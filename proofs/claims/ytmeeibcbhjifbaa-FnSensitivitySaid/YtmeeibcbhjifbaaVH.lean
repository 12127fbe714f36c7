/- Several texts of the proofs in one: MarkM, MarkM2. -/
import Derived.Test.YtmeeibcbhjifbaaGB
import Derived.Test.YtmeeibcbhjifbaaVE
/- The laws' marks on models. -/
namespace Go.Proofs.Ytmeeibcbhjifbaa
set_option linter.unusedVariables false
open Go.RowKit Go.Proofs.Bell Go.BigFrame

theorem lensK_step (ws : List (List Int)) (k : Nat) : lensK ws (k + 1) = lensK ws k + (ws.getD k []).length := rfl

def SSBlk (us : List Value) (n : Nat) (b : Nat) : Prop := ∃ k, k < n ∧ (us.getD k nv).ownBlock = some b

set_option maxRecDepth 100000 in
set_option maxHeartbeats 1600000 in
theorem markInt64SS_c (lo hi : Nat) (v : Value) (us : List Value) (ws : List (List Int)) (k0 : Int) (w : World) (h : OwnSS lo hi w v us ws) (hk0 : 0 ≤ k0) (hk1 : k0 + (SzSS ws : Int) ≤ 9223372036854775000) (hn : SzSS ws ≤ 1000000000) :
    Calls Try.prog 67 #[v, .int .i64 k0] w (fun e w' => e = .returned (.int .i64 (k0 + (lensK ws ws.length : Int))) ∧ Only (SSBlk us ws.length) w w') := by
  have hlen := h.len
  have hrow := h.row
  have hcd := h.cd
  have hdis := h.dis
  have hown := h.own
  have hle := fun k (hk : k ≤ ws.length) => lensK_le ws hk
  have hst := lensK_step ws
  have hlo := own_lo hrow
  unfold SzSS at hk1 hn
  generalize hnw : ws.length = n at *
  obtain ⟨ao, cap, g, hv, hao, hvb⟩ := own_open hrow
  subst hv
  have HVB := Lib.hid hvb; clear hvb
  have HCD := Lib.hid hcd; clear hcd
  have HDIS := Lib.hid hdis; clear hdis
  have HOWN := Lib.hid hown; clear hown
  have HLE := Lib.hid hle; clear hle
  have HST := Lib.hid hst; clear hst
  have HNW := Lib.hid hnw; clear hnw
  have HROW := Lib.hid hrow; clear hrow
  have HLO := Lib.hid hlo; clear hlo
  clear h
  go_enter Try.func67, Try.ntmps67
  go_wp2_with fail
  go_loopw [5, 1] (fun i q wr => ∃ (k : Nat), k ≤ n ∧ i = .int .i64 k ∧ q = .int .i64 (k0 + (lensK ws k : Int)) ∧ Only (SSBlk us n) w wr ∧ (∀ j, k ≤ j → j < n → OwnI lo wr (us.getD j nv) (ws.getD j [])) ∧ wr.ownsRow lo 38 1 (.slice ao n cap) n us) (fun i _ _ => n - (intOf i).toNat)
  case atStart => exact ⟨0, Nat.zero_le _, rfl, by simp [lensK], Only.refl _ _, fun j _ hj => HOWN.out j hj, HROW.out⟩
  case round =>
    obtain ⟨k, hk, rfl, rfl, ho, hj, hr⟩ := hrel
    by_cases hlt : k < n
    · obtain rfl : ao = some ⟨g, 0, none⟩ := hao (by omega)
      have hix := ix (P := Try.prog) (T := 39) (n := n) (cap := cap) Try.underlying39 cells_SS has_SS (ao := some ⟨g, 0, none⟩) (b := g) (off := 0) (fun _ => rfl) (k := k) hlt _ rfl
      rw [Nat.mul_one, Nat.zero_add] at hix
      have hc : wr.cell? ⟨g, k, none⟩ = some (us.getD k nv) := (World.ownsRow.cellAt hr k (by omega)).trans (getDv (by rw [hlen]; exact hlt))
      have h1 := HLE.out k (by omega)
      have h2 := HLE.out (k + 1) (by omega)
      have h3 := HST.out k
      have hm := markInt64S_c (us.getD k nv) (ws.getD k []).length lo (k0 + (lensK ws k : Int)) (ints (ws.getD k [])) wr (hj k (Nat.le_refl _) hlt) (by omega) (by omega) (by omega)
      have hnx : ∀ w', Only (fun b => (us.getD k nv).ownBlock = some b) wr w' → Only (SSBlk us n) w w' ∧ (∀ j, k + 1 ≤ j → j < n → OwnI lo w' (us.getD j nv) (ws.getD j [])) ∧ w'.ownsRow lo 38 1 (.slice (some ⟨g, 0, none⟩) n cap) n us := fun w' hw => by
        refine ⟨ho.trans (hw.mono fun b hb => ⟨k, hlt, hb⟩), fun j h4 h5 => own_only (hj j (by omega) h5) hw (fun b hb hS => HDIS.out k j (by omega) h5 b hb hS), own_only hr hw (fun b hb hS => HCD.out k hlt b hS hb)⟩
      have hq : (k0 + (lensK ws k : Int)) + ((ws.getD k []).length : Int) = k0 + (lensK ws (k + 1) : Int) := by rw [h3]; omega
      rw [hq] at hm
      have HM := Lib.hid hm; clear hm
      have HNX := Lib.hid hnx; clear hnx
      clear hr hj ho hq h3
      generalize us.getD k nv = uk at *
      generalize hL : lensK ws (k + 1) = L1 at *
      have HL := Lib.hid hL; clear hL
      generalize lensK ws k = L0 at *
      go_wp2_with fail
      refine HM.out.mono ?_
      rintro _ w1 ⟨rfl, _, o1⟩
      go_wp2
      go_roundw
      case rel => exact ⟨k + 1, by omega, by go_num, by rw [HL.out], HNX.out _ o1⟩
      case measure => simp [intOf]; omega
    · obtain rfl : k = n := by omega
      go_wp2
      go_returns
      exact ⟨rfl, ho⟩

theorem OwnSS.keep {lo hi : Nat} {S : Nat → Prop} {w w' : World} {v : Value} {us : List Value} {ws : List (List Int)} (h : OwnSS lo hi w v us ws) (ho : Only S w w') (h1 : ∀ b, v.ownBlock = some b → ¬ S b) (h2 : ∀ k, k < ws.length → ∀ b, (us.getD k nv).ownBlock = some b → ¬ S b) : OwnSS lo hi w' v us ws :=
  ⟨h.len, own_only h.row ho h1, h.rowh, fun k hk => own_only (h.own k hk) ho (h2 k hk), h.top, h.dis, h.cd⟩

set_option maxRecDepth 100000 in
set_option maxHeartbeats 1600000 in
theorem markModel_c (lo hi : Nat) (zv wv bv : Value) (us : List Value) (zs : List Int) (ws : List (List Int)) (bs : List Int) (k0 : Int) (w : World) (h : OwnM lo hi w zv wv bv us zs ws bs) (hhi : hi ≤ w.heap.size) (hk0 : 0 ≤ k0) (hk1 : k0 + (zs.length : Int) + (SzSS ws : Int) + (bs.length : Int) ≤ 9223372036854775000) (hn : SzSS ws ≤ 1000000000) (hnz : zs.length ≤ 1000000000) (hnb : bs.length ≤ 1000000000) :
    Calls Try.prog 22 #[.agg #[zv, wv, bv], .int .i64 k0] w (fun e w' => e = .returned (.int .i64 (k0 + (zs.length : Int) + (lensK ws ws.length : Int) + (bs.length : Int))) ∧ Only (fun b => lo ≤ b ∧ b < hi) w w') := by
  have hSz : lensK ws ws.length ≤ SzSS ws := by unfold SzSS; omega
  have hm1 := fun w' (hx : Below w.heap.size w w') => markInt64S_c zv zs.length lo k0 (ints zs) w' (own_later h.z hx) hk0 (by omega) (by omega)
  have hm2 := fun w' (hx : OwnSS lo hi w' wv us ws) => markInt64SS_c lo hi wv us ws (k0 + (zs.length : Int)) w' hx (by omega) (by omega) hn
  have hm3 := fun w' (hx : OwnI lo w' bv bs) => markInt64S_c bv bs.length lo (k0 + (zs.length : Int) + (lensK ws ws.length : Int)) (ints bs) w' hx (by omega) (by omega) (by omega)
  have hsv : ∃ ao n cap, zv = .slice ao n cap := by obtain ⟨ao, cap, g, e, _⟩ := own_open h.z; exact ⟨_, _, _, e⟩
  have hwv : ∃ ao n cap, wv = .slice ao n cap := by obtain ⟨ao, cap, g, e, _⟩ := own_open h.s.row; exact ⟨_, _, _, e⟩
  have hbv : ∃ ao n cap, bv = .slice ao n cap := by obtain ⟨ao, cap, g, e, _⟩ := own_open h.b; exact ⟨_, _, _, e⟩
  have H := Lib.hid h; clear h
  have HM1 := Lib.hid hm1; clear hm1
  have HM2 := Lib.hid hm2; clear hm2
  have HM3 := Lib.hid hm3; clear hm3
  generalize zs.length = nz at *
  generalize lensK ws ws.length = nw at *
  generalize bs.length = nb at *
  obtain ⟨az, lz, cz, rfl⟩ := hsv
  obtain ⟨aw, lw, cw, rfl⟩ := hwv
  obtain ⟨ab, lb, cb, rfl⟩ := hbv
  go_enter Try.func22, Try.ntmps22
  go_wp2_with fail
  have hH := H.out
  have kb : ∀ o, Below w.heap.size w (w.alloc o) := fun o => (Below.refl _ _).alloc (Nat.le_refl _) o
  refine (HM1.out _ (kb _)).mono ?_
  rintro _ w1 ⟨rfl, _, o1⟩
  have nb1 : ¬ (Value.slice az lz cz).ownBlock = some w.heap.size := fun e => by have := hH.zh _ e; omega
  have c0 := cell_only o1 (p := ⟨w.heap.size, 0, none⟩) (v := .slice az lz cz) (by simp [go_sem]) nb1
  have c1 := cell_only o1 (p := ⟨w.heap.size, 1, none⟩) (v := .slice aw lw cw) (by simp [go_sem]) nb1
  have c2 := cell_only o1 (p := ⟨w.heap.size, 2, none⟩) (v := .slice ab lb cb) (by simp [go_sem]) nb1
  have hs1 := (hH.s.later (kb _)).keep o1 (fun b e1 e2 => hH.zc b e2 e1) (fun k hk b e1 e2 => hH.zu k hk b e1 e2)
  have hb1 := own_only (own_later hH.b (kb _)) o1 (fun b e1 e2 => hH.zb b e2 e1)
  have t1 := (Only.of_below (S := fun b => lo ≤ b ∧ b < hi) (kb _)).trans (o1.mono fun b e => ⟨own_lo hH.z b e, hH.zh b e⟩)
  clear o1
  have HB1 := Lib.hid hb1; clear hb1
  have T1 := Lib.hid t1; clear t1
  have HS1 := Lib.hid hs1; clear hs1
  have HH := Lib.hid hH; clear hH
  go_wp2_with fail
  refine (HM2.out _ HS1.out).mono ?_
  rintro _ w2 ⟨rfl, o2⟩
  have hH := HH.out
  have nb2 : ¬ SSBlk us ws.length w.heap.size := fun ⟨k, hk, e⟩ => by have := hH.s.top k hk _ e; omega
  have d0 := cell_only o2 c0 nb2
  have d1 := cell_only o2 c1 nb2
  have d2 := cell_only o2 c2 nb2
  have hb2 := own_only HB1.out o2 (fun b e1 ⟨k, hk, e2⟩ => hH.bu k hk b e2 e1)
  have t2 := T1.out.trans (o2.mono fun b ⟨k, hk, e⟩ => ⟨own_lo (hH.s.own k hk) b e, hH.s.top k hk b e⟩)
  clear o2 c0 c1 c2 nb1 nb2 hH
  have HB2 := Lib.hid hb2; clear hb2
  have T2 := Lib.hid t2; clear t2
  go_wp2_with fail
  refine (HM3.out _ HB2.out).mono ?_
  rintro _ w3 ⟨rfl, _, o3⟩
  have hH := HH.out
  have t3 := T2.out.trans (o3.mono fun b e => ⟨own_lo hH.b b e, hH.bh b e⟩)
  go_wp2
  go_returns
  exact ⟨rfl, t3⟩

end Go.Proofs.Ytmeeibcbhjifbaa

/- The laws' marks on models that are results: the marks are kept, and found again. -/
namespace Go.Proofs.Ytmeeibcbhjifbaa
set_option linter.unusedVariables false
open Go.RowKit Go.Proofs.Bell Go.BigFrame

def mkSS (k0 : Int) (ws : List (List Int)) : List (List Int) := (List.range ws.length).map fun j => mk1 (k0 + (lensK ws j : Int)) (ws.getD j []).length
theorem mkSS_len (k0 : Int) (ws : List (List Int)) : (mkSS k0 ws).length = ws.length := by simp [mkSS]
theorem mkSS_get (k0 : Int) (ws : List (List Int)) {j : Nat} (h : j < ws.length) : (mkSS k0 ws).getD j [] = mk1 (k0 + (lensK ws j : Int)) (ws.getD j []).length := by
  simp [mkSS, List.getD, h]
def rowK (ws : List (List Int)) (k0 : Int) (k j : Nat) : List Int := if j < k then mk1 (k0 + (lensK ws j : Int)) (ws.getD j []).length else ws.getD j []
theorem rowK_zero (ws : List (List Int)) (k0 : Int) (j : Nat) : rowK ws k0 0 j = ws.getD j [] := by simp [rowK]
theorem rowK_same (ws : List (List Int)) (k0 : Int) (k : Nat) : rowK ws k0 k k = ws.getD k [] := by simp [rowK]
theorem rowK_new (ws : List (List Int)) (k0 : Int) (k : Nat) : rowK ws k0 (k + 1) k = mk1 (k0 + (lensK ws k : Int)) (ws.getD k []).length := by simp [rowK]
theorem rowK_other (ws : List (List Int)) (k0 : Int) {k j : Nat} (h : j ≠ k) : rowK ws k0 (k + 1) j = rowK ws k0 k j := by
  unfold rowK
  by_cases h1 : j < k
  · rw [if_pos h1, if_pos (by omega)]
  · rw [if_neg h1, if_neg (by omega)]

def SSMarked (lo hi : Nat) (v : Value) (us : List Value) (ws : List (List Int)) (k0 : Int) (w : World) (e : Ending) (w' : World) : Prop :=
  e = .returned (.int .i64 (k0 + (lensK ws ws.length : Int))) ∧ OwnSS lo hi w' v us (mkSS k0 ws) ∧ Only (SSBlk us ws.length) w w'

set_option maxRecDepth 100000 in
set_option maxHeartbeats 1600000 in
theorem markInt64SS2_c (lo hi : Nat) (v : Value) (us : List Value) (ws : List (List Int)) (k0 : Int) (w : World) (h : OwnSS lo hi w v us ws) (hk0 : 0 ≤ k0) (hk1 : k0 + (SzSS ws : Int) ≤ 9223372036854775000) (hn : SzSS ws ≤ 1000000000) :
    Calls Try.prog 67 #[v, .int .i64 k0] w (SSMarked lo hi v us ws k0 w) := by
  have hlen := h.len
  have hrow := h.row
  have hcd := h.cd
  have hdis := h.dis
  have hown := h.own
  have hle := fun k (hk : k ≤ ws.length) => lensK_le ws hk
  have hst := lensK_step ws
  have hlo := own_lo hrow
  have hdone : ∀ w', w'.ownsRow lo 38 1 v ws.length us → (∀ j, j < ws.length → OwnI lo w' (us.getD j nv) (rowK ws k0 ws.length j)) → OwnSS lo hi w' v us (mkSS k0 ws) := fun w' h1 h2 =>
    ⟨by rw [mkSS_len]; exact h.len, by rw [mkSS_len]; exact h1, h.rowh, fun j hj => by rw [mkSS_len] at hj; rw [mkSS_get _ _ hj]; have := h2 j hj; rwa [rowK, if_pos hj] at this, fun j hj => by rw [mkSS_len] at hj; exact h.top j hj, fun i j hi hj => by rw [mkSS_len] at hj; exact h.dis i j hi hj, fun j hj => by rw [mkSS_len] at hj; exact h.cd j hj⟩
  unfold SSMarked
  unfold SzSS at hk1 hn
  generalize hnw : ws.length = n at *
  obtain ⟨ao, cap, g, hv, hao, hvb⟩ := own_open hrow
  subst hv
  have HVB := Lib.hid hvb; clear hvb
  have HCD := Lib.hid hcd; clear hcd
  have HDIS := Lib.hid hdis; clear hdis
  have HOWN := Lib.hid hown; clear hown
  have HLE := Lib.hid hle; clear hle
  have HST := Lib.hid hst; clear hst
  have HNW := Lib.hid hnw; clear hnw
  have HROW := Lib.hid hrow; clear hrow
  have HLO := Lib.hid hlo; clear hlo
  have HDONE := Lib.hid hdone; clear hdone
  clear h
  go_enter Try.func67, Try.ntmps67
  go_wp2_with fail
  go_loopw [5, 1] (fun i q wr => ∃ (k : Nat), k ≤ n ∧ i = .int .i64 k ∧ q = .int .i64 (k0 + (lensK ws k : Int)) ∧ Only (SSBlk us n) w wr ∧ (∀ j, j < n → OwnI lo wr (us.getD j nv) (rowK ws k0 k j)) ∧ wr.ownsRow lo 38 1 (.slice ao n cap) n us) (fun i _ _ => n - (intOf i).toNat)
  case atStart => exact ⟨0, Nat.zero_le _, rfl, by simp [lensK], Only.refl _ _, fun j hj => by rw [rowK_zero]; exact HOWN.out j hj, HROW.out⟩
  case round =>
    obtain ⟨k, hk, rfl, rfl, ho, hj, hr⟩ := hrel
    by_cases hlt : k < n
    · obtain rfl : ao = some ⟨g, 0, none⟩ := hao (by omega)
      have hix := ix (P := Try.prog) (T := 39) (n := n) (cap := cap) Try.underlying39 cells_SS has_SS (ao := some ⟨g, 0, none⟩) (b := g) (off := 0) (fun _ => rfl) (k := k) hlt _ rfl
      rw [Nat.mul_one, Nat.zero_add] at hix
      have hc : wr.cell? ⟨g, k, none⟩ = some (us.getD k nv) := (World.ownsRow.cellAt hr k (by omega)).trans (getDv (by rw [hlen]; exact hlt))
      have h1 := HLE.out k (by omega)
      have h2 := HLE.out (k + 1) (by omega)
      have h3 := HST.out k
      have hjk := hj k hlt
      rw [rowK_same] at hjk
      have hm := markInt64S_c (us.getD k nv) (ws.getD k []).length lo (k0 + (lensK ws k : Int)) (ints (ws.getD k [])) wr hjk (by omega) (by omega) (by omega)
      have hnx : ∀ w', OwnI lo w' (us.getD k nv) (rowK ws k0 (k + 1) k) → Only (fun b => (us.getD k nv).ownBlock = some b) wr w' → Only (SSBlk us n) w w' ∧ (∀ j, j < n → OwnI lo w' (us.getD j nv) (rowK ws k0 (k + 1) j)) ∧ w'.ownsRow lo 38 1 (.slice (some ⟨g, 0, none⟩) n cap) n us := fun w' hmk hw => by
        refine ⟨ho.trans (hw.mono fun b hb => ⟨k, hlt, hb⟩), fun j h5 => ?_, own_only hr hw (fun b hb hS => HCD.out k hlt b hS hb)⟩
        rcases Nat.lt_trichotomy j k with h6 | rfl | h6
        · rw [rowK_other _ _ (by omega)]
          exact own_only (hj j h5) hw (fun b hb hS => HDIS.out j k h6 hlt b hS hb)
        · exact hmk
        · rw [rowK_other _ _ (by omega)]
          exact own_only (hj j h5) hw (fun b hb hS => HDIS.out k j h6 h5 b hb hS)
      have hq : (k0 + (lensK ws k : Int)) + ((ws.getD k []).length : Int) = k0 + (lensK ws (k + 1) : Int) := by rw [h3]; omega
      rw [hq] at hm
      rw [rowK_new] at hnx
      have HM := Lib.hid hm; clear hm
      have hnx' := fun (w' : World) (hx : w'.ownsRow lo 2 1 (us.getD k nv) (ws.getD k []).length (ints (mk1 (k0 + (lensK ws k : Int)) (ws.getD k []).length))) => hnx w' (by unfold OwnI; rw [mk1_len]; exact hx)
      have HNX := Lib.hid hnx'; clear hnx'
      clear hr hj ho hq h3 hnx hjk
      generalize mk1 (k0 + (lensK ws k : Int)) (ws.getD k []).length = MK at *
      generalize us.getD k nv = uk at *
      generalize hL : lensK ws (k + 1) = L1 at *
      have HL := Lib.hid hL; clear hL
      generalize lensK ws k = L0 at *
      go_wp2_with fail
      refine HM.out.mono ?_
      rintro _ w1 ⟨rfl, m1, o1⟩
      have M1 := Lib.hid m1; clear m1
      go_wp2
      go_roundw
      case rel => exact ⟨k + 1, by omega, by go_num, by rw [HL.out], HNX.out _ M1.out o1⟩
      case measure => simp [intOf]; omega
    · obtain rfl : k = n := by omega
      have hd := HDONE.out wr hr hj
      have HD := Lib.hid hd; clear hd
      clear hj hr
      go_wp2
      go_returns
      exact ⟨rfl, HD.out, ho⟩

theorem OwnSS.keepM {lo hi : Nat} {S : Nat → Prop} {w w' : World} {v : Value} {us : List Value} {k0 : Int} {ws : List (List Int)} (h : OwnSS lo hi w v us (mkSS k0 ws)) (ho : Only S w w') (h1 : ∀ b, v.ownBlock = some b → ¬ S b) (h2 : ∀ k, k < ws.length → ∀ b, (us.getD k nv).ownBlock = some b → ¬ S b) : OwnSS lo hi w' v us (mkSS k0 ws) :=
  h.keep ho h1 (fun k hk => h2 k (by rwa [mkSS_len] at hk))

def ModelMarked (lo hi : Nat) (zv wv bv : Value) (us : List Value) (nz : Nat) (ws : List (List Int)) (nb : Nat) (k0 : Int) (w : World) (e : Ending) (w' : World) : Prop :=
  e = .returned (.int .i64 (k0 + (nz : Int) + (lensK ws ws.length : Int) + (nb : Int))) ∧ OwnM lo hi w' zv wv bv us (mk1 k0 nz) (mkSS (k0 + (nz : Int)) ws) (mk1 (k0 + (nz : Int) + (lensK ws ws.length : Int)) nb) ∧ Only (fun b => lo ≤ b ∧ b < hi) w w'

set_option maxRecDepth 100000 in
set_option maxHeartbeats 1600000 in
theorem markModel2_c (lo hi : Nat) (zv wv bv : Value) (us : List Value) (zs : List Int) (ws : List (List Int)) (bs : List Int) (k0 : Int) (w : World) (h : OwnM lo hi w zv wv bv us zs ws bs) (hhi : hi ≤ w.heap.size) (hk0 : 0 ≤ k0) (hk1 : k0 + (zs.length : Int) + (SzSS ws : Int) + (bs.length : Int) ≤ 9223372036854775000) (hn : SzSS ws ≤ 1000000000) (hnz : zs.length ≤ 1000000000) (hnb : bs.length ≤ 1000000000) :
    Calls Try.prog 22 #[.agg #[zv, wv, bv], .int .i64 k0] w (ModelMarked lo hi zv wv bv us zs.length ws bs.length k0 w) := by
  have hSz : lensK ws ws.length ≤ SzSS ws := by unfold SzSS; omega
  have hm1 := fun w' (hx : Below w.heap.size w w') => markInt64S_c zv zs.length lo k0 (ints zs) w' (own_later h.z hx) hk0 (by omega) (by omega)
  have hm2 := fun w' (hx : OwnSS lo hi w' wv us ws) => markInt64SS2_c lo hi wv us ws (k0 + (zs.length : Int)) w' hx (by omega) (by omega) hn
  have hm3 := fun w' (hx : OwnI lo w' bv bs) => markInt64S_c bv bs.length lo (k0 + (zs.length : Int) + (lensK ws ws.length : Int)) (ints bs) w' hx (by omega) (by omega) (by omega)
  have hsv : ∃ ao n cap, zv = .slice ao n cap := by obtain ⟨ao, cap, g, e, _⟩ := own_open h.z; exact ⟨_, _, _, e⟩
  have hwv : ∃ ao n cap, wv = .slice ao n cap := by obtain ⟨ao, cap, g, e, _⟩ := own_open h.s.row; exact ⟨_, _, _, e⟩
  have hbv : ∃ ao n cap, bv = .slice ao n cap := by obtain ⟨ao, cap, g, e, _⟩ := own_open h.b; exact ⟨_, _, _, e⟩
  unfold ModelMarked
  have H := Lib.hid h; clear h
  have HM1 := Lib.hid hm1; clear hm1
  have HM2 := Lib.hid hm2; clear hm2
  have HM3 := Lib.hid hm3; clear hm3
  generalize zs.length = nz at *
  generalize bs.length = nb at *
  obtain ⟨az, lz, cz, rfl⟩ := hsv
  obtain ⟨aw, lw, cw, rfl⟩ := hwv
  obtain ⟨ab, lb, cb, rfl⟩ := hbv
  go_enter Try.func22, Try.ntmps22
  go_wp2_with fail
  have hH := H.out
  have kb : ∀ o, Below w.heap.size w (w.alloc o) := fun o => (Below.refl _ _).alloc (Nat.le_refl _) o
  refine (HM1.out _ (kb _)).mono ?_
  rintro _ w1 ⟨rfl, m1, o1⟩
  have nb1 : ¬ (Value.slice az lz cz).ownBlock = some w.heap.size := fun e => by have := hH.zh _ e; omega
  have c0 := cell_only o1 (p := ⟨w.heap.size, 0, none⟩) (v := .slice az lz cz) (by simp [go_sem]) nb1
  have c1 := cell_only o1 (p := ⟨w.heap.size, 1, none⟩) (v := .slice aw lw cw) (by simp [go_sem]) nb1
  have c2 := cell_only o1 (p := ⟨w.heap.size, 2, none⟩) (v := .slice ab lb cb) (by simp [go_sem]) nb1
  have hs1 := (hH.s.later (kb _)).keep o1 (fun b e1 e2 => hH.zc b e2 e1) (fun k hk b e1 e2 => hH.zu k hk b e1 e2)
  have hb1 := own_only (own_later hH.b (kb _)) o1 (fun b e1 e2 => hH.zb b e2 e1)
  have t1 := (Only.of_below (S := fun b => lo ≤ b ∧ b < hi) (kb _)).trans (o1.mono fun b e => ⟨own_lo hH.z b e, hH.zh b e⟩)
  clear o1
  have M1 := Lib.hid m1; clear m1
  have HB1 := Lib.hid hb1; clear hb1
  have T1 := Lib.hid t1; clear t1
  have HS1 := Lib.hid hs1; clear hs1
  have HH := Lib.hid hH; clear hH
  go_wp2_with fail
  refine (HM2.out _ HS1.out).mono ?_
  rintro _ w2 ⟨rfl, m2, o2⟩
  have hH := HH.out
  have nb2 : ¬ SSBlk us ws.length w.heap.size := fun ⟨k, hk, e⟩ => by have := hH.s.top k hk _ e; omega
  have d0 := cell_only o2 c0 nb2
  have d1 := cell_only o2 c1 nb2
  have d2 := cell_only o2 c2 nb2
  have hb2 := own_only HB1.out o2 (fun b e1 ⟨k, hk, e2⟩ => hH.bu k hk b e2 e1)
  have m1 := own_only M1.out o2 (fun b e1 ⟨k, hk, e2⟩ => hH.zu k hk b e2 e1)
  have t2 := T1.out.trans (o2.mono fun b ⟨k, hk, e⟩ => ⟨own_lo (hH.s.own k hk) b e, hH.s.top k hk b e⟩)
  clear o2 c0 c1 c2 nb1 nb2 hH
  have M1' := Lib.hid m1; clear m1
  have M2 := Lib.hid m2; clear m2
  have HB2 := Lib.hid hb2; clear hb2
  have T2 := Lib.hid t2; clear t2
  go_wp2_with fail
  refine (HM3.out _ HB2.out).mono ?_
  rintro _ w3 ⟨rfl, m3, o3⟩
  have hH := HH.out
  have t3 := T2.out.trans (o3.mono fun b e => ⟨own_lo hH.b b e, hH.bh b e⟩)
  have m2 := M2.out.keepM o3 (fun b e1 e2 => hH.bc b e2 e1) (fun k hk b e1 e2 => hH.bu k hk b e1 e2)
  have m1 := own_only M1'.out o3 (fun b e1 e2 => hH.zb b e1 e2)
  have hM : OwnM lo hi w3 (.slice az lz cz) (.slice aw lw cw) (.slice ab lb cb) us (mk1 k0 nz) (mkSS (k0 + (nz : Int)) ws) (mk1 (k0 + (nz : Int) + (lensK ws ws.length : Int)) nb) :=
    ⟨by unfold OwnI; rw [mk1_len]; exact m1, hH.zh, m2, by unfold OwnI; rw [mk1_len]; exact m3, hH.bh, hH.zb, hH.zc, fun k hk => hH.zu k (by rwa [mkSS_len] at hk), fun k hk => hH.bu k (by rwa [mkSS_len] at hk), hH.bc⟩
  have HMM := Lib.hid hM; clear hM
  go_wp2
  go_returns
  exact ⟨rfl, HMM.out, t3⟩

set_option maxRecDepth 100000 in
set_option maxHeartbeats 1600000 in
theorem heldInt64SS_c (v : Value) (ws : List (List Int)) (k0 : Int) (w : World) (h : RdSS w v (mkSS k0 ws)) (hk0 : 0 ≤ k0) (hk1 : k0 + (SzSS ws : Int) ≤ 9223372036854775000) (hn : SzSS ws ≤ 1000000000) :
    Calls Try.prog 69 #[v, .int .i64 k0] w (RetS (.int .i64 (k0 + (lensK ws ws.length : Int))) w) := by
  obtain ⟨us, hus, hr, hrow⟩ := h
  rw [mkSS_len] at hus hr hrow
  have hrow2 : ∀ k, k < ws.length → Rd w (us.getD k nv) (ws.getD k []).length (ints (mk1 (k0 + (lensK ws k : Int)) (ws.getD k []).length)) := fun k hk => by have := hrow k hk; rwa [mkSS_get _ _ hk, mk1_len] at this
  have hle := fun k (hk : k ≤ ws.length) => lensK_le ws hk
  have hst := lensK_step ws
  unfold SzSS at hk1 hn
  generalize hnw : ws.length = n at *
  have HNW := Lib.hid hnw; clear hnw
  obtain ⟨hn', ao, cap, bb, off, rfl, hao, hcell⟩ := hr.open
  have hcell := fun k => hcell w (Below.refl _ _) k
  clear hr hrow
  have HROW := Lib.hid hrow2; clear hrow2
  have HLE := Lib.hid hle; clear hle
  have HST := Lib.hid hst; clear hst
  go_enter Try.func69, Try.ntmps69
  go_wp2_with fail
  go_loop [5, 1] (fun i q => ∃ (k : Nat), k ≤ n ∧ i = .int .i64 k ∧ q = .int .i64 (k0 + (lensK ws k : Int))) (fun i _ => n - (intOf i).toNat)
  case atStart => exact ⟨0, Nat.zero_le _, rfl, by simp [lensK]⟩
  case round =>
    obtain ⟨k, hk, rfl, rfl⟩ := hrel
    by_cases hlt : k < n
    · have hix := ix (P := Try.prog) (T := 39) (n := n) (cap := cap) Try.underlying39 cells_SS has_SS hao (k := k) hlt _ rfl
      rw [Nat.mul_one] at hix
      have hc : w.cell? ⟨bb, off + k, none⟩ = some (us.getD k nv) := hcell k _ (by omega) (getDv (by rw [hus]; exact hlt))
      have h1 := HLE.out k (by omega)
      have h2 := HLE.out (k + 1) (by omega)
      have h3 := HST.out k
      have hm := heldInt64S_c (us.getD k nv) (ws.getD k []).length (k0 + (lensK ws k : Int)) w (HROW.out k hlt) (by omega) (by omega)
      have hq : (k0 + (lensK ws k : Int)) + ((ws.getD k []).length : Int) = k0 + (lensK ws (k + 1) : Int) := by rw [h3]; omega
      rw [hq] at hm
      have hpos : decide (k0 + (lensK ws (k + 1) : Int) < 0) = false := decide_eq_false (by omega)
      have HM := Lib.hid hm; clear hm
      clear hcell hq h3
      generalize us.getD k nv = uk at *
      generalize hL : lensK ws (k + 1) = L1 at *
      have HL := Lib.hid hL; clear hL
      generalize lensK ws k = L0 at *
      go_wp2_with fail
      refine HM.out.mono ?_
      rintro _ _ ⟨rfl, rfl⟩
      go_wp2
      go_round
      case rel => exact ⟨k + 1, by omega, by go_num, by rw [HL.out]⟩
      case measure => simp [intOf]; omega
    · obtain rfl : k = n := by omega
      clear hcell
      go_wp2
      go_returns
      exact RetS.mk rfl

set_option maxRecDepth 100000 in
set_option maxHeartbeats 1600000 in
theorem heldModel_c (zv wv bv : Value) (nz : Nat) (ws : List (List Int)) (nb : Nat) (k0 : Int) (w : World) (hz : Rd w zv (mk1 k0 nz).length (ints (mk1 k0 nz))) (hw : RdSS w wv (mkSS (k0 + (nz : Int)) ws)) (hb : Rd w bv (mk1 (k0 + (nz : Int) + (lensK ws ws.length : Int)) nb).length (ints (mk1 (k0 + (nz : Int) + (lensK ws ws.length : Int)) nb))) (hk0 : 0 ≤ k0) (hk1 : k0 + (nz : Int) + (SzSS ws : Int) + (nb : Int) ≤ 9223372036854775000) (hn : SzSS ws ≤ 1000000000) :
    Calls Try.prog 23 #[.agg #[zv, wv, bv], .int .i64 k0] w (RetB (.int .i64 (k0 + (nz : Int) + (lensK ws ws.length : Int) + (nb : Int))) w) := by
  have hSz : lensK ws ws.length ≤ SzSS ws := by unfold SzSS; omega
  rw [mk1_len] at hz hb
  have hm1 := fun w' (hx : Below w.heap.size w w') => heldInt64S_c zv nz k0 w' (hz.later hx) hk0 (by omega)
  have hm2 := fun w' (hx : Below w.heap.size w w') => heldInt64SS_c wv ws (k0 + (nz : Int)) w' (hw.later hx) (by omega) (by omega) hn
  have hm3 := fun w' (hx : Below w.heap.size w w') => heldInt64S_c bv nb (k0 + (nz : Int) + (lensK ws ws.length : Int)) w' (hb.later hx) (by omega) (by omega)
  have HM1 := Lib.hid hm1; clear hm1
  have HM2 := Lib.hid hm2; clear hm2
  have HM3 := Lib.hid hm3; clear hm3
  clear hz hw hb
  generalize lensK ws ws.length = nw at *
  have p1 : decide (k0 + (nz : Int) < 0) = false := decide_eq_false (by omega)
  have p2 : decide (k0 + (nz : Int) + (nw : Int) < 0) = false := decide_eq_false (by omega)
  have p3 : decide (k0 + (nz : Int) + (nw : Int) + (nb : Int) < 0) = false := decide_eq_false (by omega)
  go_enter Try.func23, Try.ntmps23
  go_wp2_with fail
  refine (HM1.out _ (by go_grown)).mono ?_
  rintro _ _ ⟨rfl, rfl⟩
  go_wp2_with fail
  refine (HM2.out _ (by go_grown)).mono ?_
  rintro _ _ ⟨rfl, rfl⟩
  go_wp2_with fail
  refine (HM3.out _ (by go_grown)).mono ?_
  rintro _ _ ⟨rfl, rfl⟩
  go_wp2
  go_returns
  exact RetB.mk rfl (by go_grown)

end Go.Proofs.Ytmeeibcbhjifbaa

