/- The raw partials: the reference's list. -/
import Derived.Test.YtmeeibcbhjifbaaFloat
import Derived.Test.YtmeeibcbhjifbaaRaw2
import Derived.Deep.RegionLaw
namespace Go.Proofs.Ytmeeibcbhjifbaa
set_option linter.unusedVariables false
open Go.RowKit Go.Proofs.Bell Go.BigFrame

theorem sapp1_I {ops : Array Oper} {o : Oper} {a : Act} {K : Act → World → Prop} {Q : Exit → Act → World → Prop} {E : Prop} (s x : Operand) (W : World) (base g : Nat) (v : Value) (qs : List Int) (p : Int)
    (ho : o.op = .call { callee := .builtin .append, args := #[s, x], argTypes := #[38, 38] }) (hgd : o.guard = none) (hg : W.heap.size = g)
    (hs : a.eval s = v) (hx : a.eval x = .slice (some ⟨g, 0, none⟩) 1 1) (hown : OwnI base W v qs) (hn : qs.length ≤ 1000000) (hbase : base ≤ W.heap.size)
    (h : ∀ v' w', OwnI base w' v' (qs ++ [p]) → Only (fun b => v.ownBlock = some b) W w' → K (a.put o.dst v') w') :
    if Region.wanted o (yielded ops a.tmps) = true then Oper.wp Try.prog o a (W.alloc (.cells #[.int .i64 p] 2)) K Q else E := by
  have hw : Region.wanted o (yielded ops a.tmps) = true := by simp [Region.wanted, hgd]
  rw [if_pos hw]
  subst hg
  obtain ⟨i0, hi, hz0, hz1, hz2⟩ := info_parts info_int64
  refine wp_append_own _ s x 38 ho base 2 i0 _ 1 8 Try.underlying38 hi hz0 hz1 hz2 rfl (by decide) v qs.length (ints qs) hs (hown.alloc _) ⟨W.heap.size, 0, none⟩ 1 1 [.int .i64 p] hx rfl (World.news_of_block (cs := #[.int .i64 p]) (heap_alloc_new W _)) (fun u hu => ?_) (by unfold maxLen; omega) (by omega) (by simp; omega) ?_
  · simp at hu
    subst hu
    rfl
  · intro v' w' ho' hg' _
    refine h v' w' ?_ ((Only.of_below ((Below.refl _ _).alloc (Nat.le_refl _) _)).trans (Only.of_grown hg'))
    unfold OwnI
    simpa [ints] using ho'

set_option maxRecDepth 100000 in
set_option maxHeartbeats 6400000 in
theorem l08Raw_c (g g' : Nat) (zv wv bv : Value) (zs : List Int) (ws : List (List Int)) (bs : List Int) (nm : ByteArray) (sv : Value) (ps : List (Int × Int × Int)) (w : World) (c0 : w.cell? ⟨g, 0, none⟩ = some zv) (c1 : w.cell? ⟨g, 1, none⟩ = some wv) (c2 : w.cell? ⟨g, 2, none⟩ = some bv) (d1 : w.cell? ⟨g', 1, none⟩ = some sv)
    (hz : Rd w zv zs.length (ints zs)) (hw : RdSS w wv ws) (hb : Rd w bv bs.length (ints bs)) (hr : Rd w sv ps.length (trips ps)) (hmb : modelB zs ws bs = true) (hl1 : 1 ≤ ps.length) (hl2 : ps.length ≤ 32) (hal : ps.all ringT = true) (hzb : zonesB zs ((ps.length : Int) - 1) = true) :
    Calls Try.prog 140 #[.pointer (some ⟨g, 0, none⟩), .pointer (some ⟨g', 0, none⟩)] w (RetOwnI (rawL ps zs ws bs) w) := by
  have hg' : g' < w.heap.size := World.block_lt_of_cell? w _ d1
  obtain ⟨_, hz8, hw5, hb5, _⟩ := modelB_t hmb
  have hwa := fun w' (hx : Below w.heap.size w w') => l08Walls_c g' nm sv ps zv zs w' (by have := hx.size; omega) (below_cell hx d1) (hr.later hx) (hz.later hx) hal hl2 hzb
  have hwl := zwK_len ps zs zs.length
  have hmo := fun w' vw k (hk : k < 5) (hx : Below w.heap.size w w') (h : Rd w' vw zs.length (ints (zwK ps zs zs.length))) => l08Moment_c g wv ws vw (zwK ps zs zs.length) k w' (below_cell hx c1) (hw.later hx) (by rw [hwl]; exact h) (by omega) (by rw [hwl]; exact (row_bd hmb k hk).1) (by omega) (zw_bd hal hzb) (row_bd hmb k hk).2.1
  have har := fun w' (hx : Below w.heap.size w w') => l08Area_c g' sv ps w' (below_cell hx d1) (hr.later hx) hl1 hal
  have hlb := lipI_bd hl1 hal
  have hmbd := fun k (hk : k < 5) => (momK_bd (walls := zwK ps zs zs.length) (row := ws.getD k []) (zw_bd hal hzb) (row_bd hmb k hk).2.1 (zwK ps zs zs.length).length)
  have hbb := fun k (hk : k < 5) => (row_bd hmb k hk).2.2
  have hst := fun k => (show rawK (zwK ps zs zs.length) ws bs (lipI ps) k ++ [rnd (bs.getD k 0 * momK (zwK ps zs zs.length) (ws.getD k []) (zwK ps zs zs.length).length) (lipI ps)] = rawK (zwK ps zs zs.length) ws bs (lipI ps) (k + 1) from rfl)
  have hrl := rawK_len (zwK ps zs zs.length) ws bs (lipI ps)
  unfold rawL
  generalize zwK ps zs zs.length = walls at *
  obtain ⟨hnq, aoq, capq, bq, offq, rfl, haoq, hcellq⟩ := hz.open
  clear hz hcellq haoq
  generalize hnn : zs.length = n at *
  rw [hb5] at hb
  obtain ⟨hn3, ao3, cap3, b3, off3, rfl, hao3, hcell3⟩ := hb.open
  clear hb
  have HWA := Lib.hid hwa; clear hwa
  have HMO := Lib.hid hmo; clear hmo
  have HAR := Lib.hid har; clear har
  have HMBD := Lib.hid hmbd; clear hmbd
  have HBB := Lib.hid hbb; clear hbb
  have HST := Lib.hid hst; clear hst
  have HRL := Lib.hid hrl; clear hrl
  have HC3 := Lib.hid hcell3; clear hcell3
  have HB5 := Lib.hid hb5; clear hb5
  clear hw hr hmb hal hzb hnn
  have hco : ∀ w', Below w.heap.size w w' → w'.cell? ⟨g, 2, none⟩ = some (.slice ao3 5 cap3) := fun w' hx => below_cell hx c2
  have HCO := Lib.hid hco; clear hco
  generalize lipI ps = d at *
  go_enter Try.func140, Try.ntmps140
  have b0 : Below w.heap.size w w := Below.refl _ _
  have z0 : w.heap.size ≤ w.heap.size := Nat.le_refl _
  go_wp2_with fail
  refine (HWA.out _ b0).mono ?_
  rintro _ w1 ⟨x1, rfl, n1, r1⟩
  have s1 := r1
  have b1 := b0.trans (s1.mono z0)
  have z1 := b1.size
  have y1 := s1.size
  clear r1
  obtain ⟨aw, cw, rfl⟩ := own_shape n1
  have rdw : Rd w1 (.slice aw n cw) n (ints walls) := by
    have h := Rd.of_own n1
    rw [hwl] at h
    exact h
  have RDW := Lib.hid rdw; clear rdw
  clear n1 c0 c1 c2 d1
  rw [hwl] at *
  go_wp2_with fail
  go_loopw [7, 6] (fun i u wr => ∃ (k : Nat), k ≤ 5 ∧ i = .int .i64 k ∧ OwnI w1.heap.size wr u (rawK walls ws bs d k) ∧ Below w1.heap.size w1 wr) (fun i _ _ => 5 - (intOf i).toNat)
  case atStart => exact ⟨0, Nat.zero_le _, rfl, own_empty _ _ _ _ (Nat.le_refl _), by go_grown⟩
  case round =>
    obtain ⟨k, hk, rfl, ho, hb⟩ := hrel
    have hlk := HRL.out k
    have HO := Lib.hid ho; clear ho
    by_cases hlt : k < 5
    · have hlt5 : decide ((k : Int) < 5) = true := by simp; omega
      have hmk := fun w' (hx : Below w1.heap.size w1 w') => HMO.out w' (.slice aw n cw) k hlt (b1.trans (hx.mono z1)) (RDW.out.later hx)
      have hak := fun w' (hx : Below w1.heap.size w1 w') => HAR.out w' (b1.trans (hx.mono z1))
      have hm := HMBD.out k hlt
      have hbk := HBB.out k hlt
      have hpr := base_bd hbk.1 hbk.2 hm.1 (by omega)
      have hdv := fun w' => l01Div_c (bs.getD k 0 * momK walls (ws.getD k []) n) d w' (by omega) (by omega) (by omega) (by omega)
      have hs := HST.out k
      have hix3 := ix (P := Try.prog) (T := 38) (cap := cap3) Try.underlying38 cells_int64 has_int64 hao3 (k := k) hlt _ rfl
      rw [Nat.mul_one] at hix3
      have m2 := HCO.out w1 b1
      have hbl : k < bs.length := by rw [HB5.out]; exact hlt
      have mk : w1.cell? ⟨b3, off3 + k, none⟩ = some (.int .i64 (bs.getD k 0)) := by rw [getD_eq hbl]; exact HC3.out _ b1 _ _ (by omega) (intsAt hbl)
      have HMK := Lib.hid hmk; clear hmk
      have HAK := Lib.hid hak; clear hak
      have HDV := Lib.hid hdv; clear hdv
      have HS := Lib.hid hs; clear hs
      generalize bs.getD k 0 = bk at *
      generalize momK walls (ws.getD k []) n = mo at *
      generalize rnd (bk * mo) d = res at *
      generalize rawK walls ws bs d k = qs at *
      have g1 : IntKind.i64.wrap (bk * mo) = bk * mo := IntWalk.i64_in _ (by omega)
      have q1 : (0 : Int) ≤ (k : Int) := by omega
      have q2 : (k : Int) < 5 := by omega
      have n2 := fun m => below_cell (below_drewN hb m) m2
      have nk := fun m => below_cell (below_drewN hb m) mk
      have hmk2 := fun m => HMK.out (wr.drewN m) (below_drewN hb m)
      have hak2 := fun m => HAK.out (wr.drewN m) (below_drewN hb m)
      have mw2 := below_cell hb m2
      have mwk := below_cell hb mk
      have HMK2 := Lib.hid hmk2; clear hmk2
      have HAK2 := Lib.hid hak2; clear hak2
      clear n2 nk
      go_wp2_with fail
      refine wp_region_any (by kernel_rfl) ?_
      refine wpAny_take (i := 0) (v := _) rfl (by kernel_rfl) (by kernel_rfl) (by kernel_rfl) (fun _ _ _ h => h) (.inl ⟨rfl, fun _ => rfl⟩) ?_
      refine wpAny_pick (C := fun w' => ∃ m, w' = wr.drewN m) 16 [0] [1, 2, 3, 4, 5, 6, 7, 8, 9, 10, 11, 12, 13, 14, 15] [16, 17, 18] (by kernel_rfl) (by kernel_rfl) (by kernel_rfl) ⟨1, rfl⟩ ?_
      simp only [List.filterMap_cons, List.filterMap_nil, List.getElem?_cons_zero, List.getElem?_cons_succ]
      repeat (quiet_step (first | (go_at_call 110; exact quietD (HMK2.out _)) | (go_at_call 111; exact quietS (HAK2.out _)) | (go_at_call 93; exact quietS (HDV.out _))))
      refine wpQuiet_nil ?_
      rintro _ ⟨nq, rfl⟩
      have o5 := own_later HO.out (below_drewN (Below.refl _ _) nq)
      have b5 := below_drewN hb nq
      have lo5 := own_lo o5
      generalize wr.drewN nq = W9 at *
      have O5 := Lib.hid o5; clear o5
      have LO5 := Lib.hid lo5; clear lo5
      clear g1
      refine wpList_step ?_
      intro K hK
      go_simp
      refine hK _ _ ?_
      refine app_I (.tmp 19) (.tmp 35) _ _ _ _ _ (by rfl) (by rfl) (by rfl) (by rfl) O5.out (by omega) b5.size ?_
      intro v2 w9 o9 q9
      have b9 := Only.below b5 q9 b5.size (fun k h => by have := LO5.out k h; omega)
      go_wp2
      go_roundw
      case rel => exact ⟨k + 1, by omega, by go_num, by rw [← HS.out]; exact o9, b9⟩
      case measure => simp [intOf]; omega
    · obtain rfl : k = 5 := by omega
      go_wp2
      go_returns
      exact ⟨_, rfl, own_base HO.out z1, b1.trans (hb.mono z1)⟩

end Go.Proofs.Ytmeeibcbhjifbaa
