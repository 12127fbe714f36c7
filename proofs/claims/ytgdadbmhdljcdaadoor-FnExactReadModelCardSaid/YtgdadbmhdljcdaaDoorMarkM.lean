/- The laws' marks on models. -/
import Derived.Test.YtgdadbmhdljcdaaDoorGB
import Derived.Test.YtgdadbmhdljcdaaDoorSS2
namespace Go.Proofs.YtgdadbmhdljcdaaDoor
set_option linter.unusedVariables false
open Go.RowKit Go.Proofs.Bell Go.BigFrame

theorem lensK_step (ws : List (List Int)) (k : Nat) : lensK ws (k + 1) = lensK ws k + (ws.getD k []).length := rfl

def SSBlk (us : List Value) (n : Nat) (b : Nat) : Prop := ∃ k, k < n ∧ (us.getD k nv).ownBlock = some b

set_option maxRecDepth 100000 in
set_option maxHeartbeats 1600000 in
theorem markInt64SS_c (lo hi : Nat) (v : Value) (us : List Value) (ws : List (List Int)) (k0 : Int) (w : World) (h : OwnSS lo hi w v us ws) (hk0 : 0 ≤ k0) (hk1 : k0 + (SzSS ws : Int) ≤ 9223372036854775000) (hn : SzSS ws ≤ 1000000000) :
    Calls Tryd.prog 50 #[v, .int .i64 k0] w (fun e w' => e = .returned (.int .i64 (k0 + (lensK ws ws.length : Int))) ∧ Only (SSBlk us ws.length) w w') := by
  have hlen := h.len
  have hrow := h.row
  have hcd := h.cd
  have hdis := h.dis
  have hown := h.own
  have hle := fun k (hk : k ≤ ws.length) => lensK_le ws hk
  have hst := lensK_step ws
  have hlo := own_lo hrow
  unfold SzSS at hk1 hn
  generalize hnw : ws.length = n at *
  obtain ⟨ao, cap, g, hv, hao, hvb⟩ := own_open hrow
  subst hv
  have HVB := Lib.hid hvb; clear hvb
  have HCD := Lib.hid hcd; clear hcd
  have HDIS := Lib.hid hdis; clear hdis
  have HOWN := Lib.hid hown; clear hown
  have HLE := Lib.hid hle; clear hle
  have HST := Lib.hid hst; clear hst
  have HNW := Lib.hid hnw; clear hnw
  have HROW := Lib.hid hrow; clear hrow
  have HLO := Lib.hid hlo; clear hlo
  clear h
  go_enter Tryd.func50, Tryd.ntmps50
  go_wp2_with fail
  go_loopw [5, 1] (fun i q wr => ∃ (k : Nat), k ≤ n ∧ i = .int .i64 k ∧ q = .int .i64 (k0 + (lensK ws k : Int)) ∧ Only (SSBlk us n) w wr ∧ (∀ j, k ≤ j → j < n → OwnI lo wr (us.getD j nv) (ws.getD j [])) ∧ wr.ownsRow lo 22 1 (.slice ao n cap) n us) (fun i _ _ => n - (intOf i).toNat)
  case atStart => exact ⟨0, Nat.zero_le _, rfl, by simp [lensK], Only.refl _ _, fun j _ hj => HOWN.out j hj, HROW.out⟩
  case round =>
    obtain ⟨k, hk, rfl, rfl, ho, hj, hr⟩ := hrel
    by_cases hlt : k < n
    · obtain rfl : ao = some ⟨g, 0, none⟩ := hao (by omega)
      have hix := ix (P := Tryd.prog) (T := 23) (n := n) (cap := cap) Tryd.underlying23 cells_SS has_SS (ao := some ⟨g, 0, none⟩) (b := g) (off := 0) (fun _ => rfl) (k := k) hlt _ rfl
      rw [Nat.mul_one, Nat.zero_add] at hix
      have hc : wr.cell? ⟨g, k, none⟩ = some (us.getD k nv) := (World.ownsRow.cellAt hr k (by omega)).trans (getDv (by rw [hlen]; exact hlt))
      have h1 := HLE.out k (by omega)
      have h2 := HLE.out (k + 1) (by omega)
      have h3 := HST.out k
      have hm := markInt64S_c (us.getD k nv) (ws.getD k []).length lo (k0 + (lensK ws k : Int)) (ints (ws.getD k [])) wr (hj k (Nat.le_refl _) hlt) (by omega) (by omega) (by omega)
      have hnx : ∀ w', Only (fun b => (us.getD k nv).ownBlock = some b) wr w' → Only (SSBlk us n) w w' ∧ (∀ j, k + 1 ≤ j → j < n → OwnI lo w' (us.getD j nv) (ws.getD j [])) ∧ w'.ownsRow lo 22 1 (.slice (some ⟨g, 0, none⟩) n cap) n us := fun w' hw => by
        refine ⟨ho.trans (hw.mono fun b hb => ⟨k, hlt, hb⟩), fun j h4 h5 => own_only (hj j (by omega) h5) hw (fun b hb hS => HDIS.out k j (by omega) h5 b hb hS), own_only hr hw (fun b hb hS => HCD.out k hlt b hS hb)⟩
      have hq : (k0 + (lensK ws k : Int)) + ((ws.getD k []).length : Int) = k0 + (lensK ws (k + 1) : Int) := by rw [h3]; omega
      rw [hq] at hm
      have HM := Lib.hid hm; clear hm
      have HNX := Lib.hid hnx; clear hnx
      clear hr hj ho hq h3
      generalize us.getD k nv = uk at *
      generalize hL : lensK ws (k + 1) = L1 at *
      have HL := Lib.hid hL; clear hL
      generalize lensK ws k = L0 at *
      go_wp2_with fail
      refine HM.out.mono ?_
      rintro _ w1 ⟨rfl, _, o1⟩
      go_wp2
      go_roundw
      case rel => exact ⟨k + 1, by omega, by go_num, by rw [HL.out], HNX.out _ o1⟩
      case measure => simp [intOf]; omega
    · obtain rfl : k = n := by omega
      go_wp2
      go_returns
      exact ⟨rfl, ho⟩

theorem OwnSS.keep {lo hi : Nat} {S : Nat → Prop} {w w' : World} {v : Value} {us : List Value} {ws : List (List Int)} (h : OwnSS lo hi w v us ws) (ho : Only S w w') (h1 : ∀ b, v.ownBlock = some b → ¬ S b) (h2 : ∀ k, k < ws.length → ∀ b, (us.getD k nv).ownBlock = some b → ¬ S b) : OwnSS lo hi w' v us ws :=
  ⟨h.len, own_only h.row ho h1, h.rowh, fun k hk => own_only (h.own k hk) ho (h2 k hk), h.top, h.dis, h.cd⟩

set_option maxRecDepth 100000 in
set_option maxHeartbeats 1600000 in
theorem markModel_c (lo hi : Nat) (zv wv bv : Value) (us : List Value) (zs : List Int) (ws : List (List Int)) (bs : List Int) (k0 : Int) (w : World) (h : OwnM lo hi w zv wv bv us zs ws bs) (hhi : hi ≤ w.heap.size) (hk0 : 0 ≤ k0) (hk1 : k0 + (zs.length : Int) + (SzSS ws : Int) + (bs.length : Int) ≤ 9223372036854775000) (hn : SzSS ws ≤ 1000000000) (hnz : zs.length ≤ 1000000000) (hnb : bs.length ≤ 1000000000) :
    Calls Tryd.prog 13 #[.agg #[zv, wv, bv], .int .i64 k0] w (fun e w' => e = .returned (.int .i64 (k0 + (zs.length : Int) + (lensK ws ws.length : Int) + (bs.length : Int))) ∧ Only (fun b => lo ≤ b ∧ b < hi) w w') := by
  have hSz : lensK ws ws.length ≤ SzSS ws := by unfold SzSS; omega
  have hm1 := fun w' (hx : Below w.heap.size w w') => markInt64S_c zv zs.length lo k0 (ints zs) w' (own_later h.z hx) hk0 (by omega) (by omega)
  have hm2 := fun w' (hx : OwnSS lo hi w' wv us ws) => markInt64SS_c lo hi wv us ws (k0 + (zs.length : Int)) w' hx (by omega) (by omega) hn
  have hm3 := fun w' (hx : OwnI lo w' bv bs) => markInt64S_c bv bs.length lo (k0 + (zs.length : Int) + (lensK ws ws.length : Int)) (ints bs) w' hx (by omega) (by omega) (by omega)
  have hsv : ∃ ao n cap, zv = .slice ao n cap := by obtain ⟨ao, cap, g, e, _⟩ := own_open h.z; exact ⟨_, _, _, e⟩
  have hwv : ∃ ao n cap, wv = .slice ao n cap := by obtain ⟨ao, cap, g, e, _⟩ := own_open h.s.row; exact ⟨_, _, _, e⟩
  have hbv : ∃ ao n cap, bv = .slice ao n cap := by obtain ⟨ao, cap, g, e, _⟩ := own_open h.b; exact ⟨_, _, _, e⟩
  have H := Lib.hid h; clear h
  have HM1 := Lib.hid hm1; clear hm1
  have HM2 := Lib.hid hm2; clear hm2
  have HM3 := Lib.hid hm3; clear hm3
  generalize zs.length = nz at *
  generalize lensK ws ws.length = nw at *
  generalize bs.length = nb at *
  obtain ⟨az, lz, cz, rfl⟩ := hsv
  obtain ⟨aw, lw, cw, rfl⟩ := hwv
  obtain ⟨ab, lb, cb, rfl⟩ := hbv
  go_enter Tryd.func13, Tryd.ntmps13
  go_wp2_with fail
  have hH := H.out
  have kb : ∀ o, Below w.heap.size w (w.alloc o) := fun o => (Below.refl _ _).alloc (Nat.le_refl _) o
  refine (HM1.out _ (kb _)).mono ?_
  rintro _ w1 ⟨rfl, _, o1⟩
  have nb1 : ¬ (Value.slice az lz cz).ownBlock = some w.heap.size := fun e => by have := hH.zh _ e; omega
  have c0 := cell_only o1 (p := ⟨w.heap.size, 0, none⟩) (v := .slice az lz cz) (by simp [go_sem]) nb1
  have c1 := cell_only o1 (p := ⟨w.heap.size, 1, none⟩) (v := .slice aw lw cw) (by simp [go_sem]) nb1
  have c2 := cell_only o1 (p := ⟨w.heap.size, 2, none⟩) (v := .slice ab lb cb) (by simp [go_sem]) nb1
  have hs1 := (hH.s.later (kb _)).keep o1 (fun b e1 e2 => hH.zc b e2 e1) (fun k hk b e1 e2 => hH.zu k hk b e1 e2)
  have hb1 := own_only (own_later hH.b (kb _)) o1 (fun b e1 e2 => hH.zb b e2 e1)
  have t1 := (Only.of_below (S := fun b => lo ≤ b ∧ b < hi) (kb _)).trans (o1.mono fun b e => ⟨own_lo hH.z b e, hH.zh b e⟩)
  clear o1
  have HB1 := Lib.hid hb1; clear hb1
  have T1 := Lib.hid t1; clear t1
  have HS1 := Lib.hid hs1; clear hs1
  have HH := Lib.hid hH; clear hH
  go_wp2_with fail
  refine (HM2.out _ HS1.out).mono ?_
  rintro _ w2 ⟨rfl, o2⟩
  have hH := HH.out
  have nb2 : ¬ SSBlk us ws.length w.heap.size := fun ⟨k, hk, e⟩ => by have := hH.s.top k hk _ e; omega
  have d0 := cell_only o2 c0 nb2
  have d1 := cell_only o2 c1 nb2
  have d2 := cell_only o2 c2 nb2
  have hb2 := own_only HB1.out o2 (fun b e1 ⟨k, hk, e2⟩ => hH.bu k hk b e2 e1)
  have t2 := T1.out.trans (o2.mono fun b ⟨k, hk, e⟩ => ⟨own_lo (hH.s.own k hk) b e, hH.s.top k hk b e⟩)
  clear o2 c0 c1 c2 nb1 nb2 hH
  have HB2 := Lib.hid hb2; clear hb2
  have T2 := Lib.hid t2; clear t2
  go_wp2_with fail
  refine (HM3.out _ HB2.out).mono ?_
  rintro _ w3 ⟨rfl, _, o3⟩
  have hH := HH.out
  have t3 := T2.out.trans (o3.mono fun b e => ⟨own_lo hH.b b e, hH.bh b e⟩)
  go_wp2
  go_returns
  exact ⟨rfl, t3⟩

end Go.Proofs.YtgdadbmhdljcdaaDoor
