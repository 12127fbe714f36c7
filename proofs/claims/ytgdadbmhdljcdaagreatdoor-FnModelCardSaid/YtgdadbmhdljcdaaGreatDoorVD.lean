/- Several texts of the proofs in one: Raw2, Raw3, Raw4, Raw5. -/
import Derived.Test.YtgdadbmhdljcdaaGreatDoorVA
import Derived.Test.YtgdadbmhdljcdaaGreatDoorWJ
import Derived.Deep.RegionLaw
/- The raw partials: the reference. -/
namespace Go.Proofs.YtgdadbmhdljcdaaGreatDoor
set_option linter.unusedVariables false
open Go.RowKit Go.Proofs.Bell Go.BigFrame

set_option maxRecDepth 100000 in
set_option maxHeartbeats 3200000 in
theorem l08Moment_c (g : Nat) (wv : Value) (ws : List (List Int)) (vw : Value) (walls : List Int) (k : Nat) (w : World) (c1 : w.cell? ⟨g, 1, none⟩ = some wv) (hw : RdSS w wv ws) (h : Rd w vw walls.length (ints walls)) (hk : k < ws.length)
    (hrl : (ws.getD k []).length = walls.length) (hl : walls.length ≤ 8) (hwb : ∀ z, 0 ≤ walls.getD z 0 ∧ walls.getD z 0 ≤ 150000) (hrb : ∀ z, 0 ≤ (ws.getD k []).getD z 0 ∧ (ws.getD k []).getD z 0 ≤ 1000) :
    Calls Tryz.prog 178 #[.pointer (some ⟨g, 0, none⟩), vw, .int .i64 k] w (RetD (.int .i64 (momK walls (ws.getD k []) walls.length)) w) := by
  have hbd := momK_bd hwb hrb
  have hpb := prodm_bd hwb hrb
  have hst := fun z => (show momK walls (ws.getD k []) (z + 1) = momK walls (ws.getD k []) z + (ws.getD k []).getD z 0 * walls.getD z 0 from rfl)
  obtain ⟨us, hus, hr, hrow⟩ := hw
  have hrow := hrow k hk
  have hcr := fun w' (hb : Below w.heap.size w w') => hr.later hb
  generalize hnw : ws.length = nw at *
  obtain ⟨hn2, ao2, cap2, b2, off2, rfl, hao2, hcell2⟩ := hr.open
  have hix2 := ix (P := Tryz.prog) (T := 43) (cap := cap2) Tryz.underlying43 cells_SS has_SS hao2 (k := k) hk _ rfl
  rw [Nat.mul_one] at hix2
  have hcr2 := hcell2
  clear hcr hr
  have hku : k < us.length := by omega
  generalize ws.getD k [] = row at *
  rw [hrl] at hrow
  generalize hnn : walls.length = n at *
  obtain ⟨hn3, ao3, cap3, b3, off3, rfl, hao3, hcell3⟩ := h.open
  have hug := getDv hku
  generalize us.getD k nv = u at *
  obtain ⟨hn4, ao4, cap4, b4, off4, rfl, hao4, hcell4⟩ := hrow.open
  clear hrow h
  have HBD := Lib.hid hbd; clear hbd
  have HPB := Lib.hid hpb; clear hpb
  have HST := Lib.hid hst; clear hst
  have HNN := Lib.hid hnn; clear hnn
  have HRL := Lib.hid hrl; clear hrl
  have HNW := Lib.hid hnw; clear hnw
  have HUS := Lib.hid hus; clear hus
  have HUG := Lib.hid hug; clear hug
  have HC2 := Lib.hid hcell2; clear hcell2
  have HC3 := Lib.hid hcell3; clear hcell3
  have HC4 := Lib.hid hcell4; clear hcell4
  clear hwb hrb hcr2
  go_enter Tryz.func178, Tryz.ntmps178
  go_wp2_with fail
  go_loopw [8, 7] (fun i s wr => ∃ (z : Nat), z ≤ n ∧ i = .int .i64 z ∧ s = .int .i64 (momK walls row z) ∧ Dr w wr) (fun i _ _ => n - (intOf i).toNat)
  case atStart => exact ⟨0, Nat.zero_le _, rfl, rfl, Dr.refl _⟩
  case round =>
    obtain ⟨z, hz, rfl, rfl, hd⟩ := hrel
    have hb := hd.below
    by_cases hlt : z < n
    · have e1 := below_cell hb c1
      have hrc : wr.cell? ⟨b2, off2 + k, none⟩ = some (.slice ao4 n cap4) := HC2.out _ hb _ _ (by omega) HUG.out
      have hix3 := ix (P := Tryz.prog) (T := 42) (cap := cap3) Tryz.underlying42 cells_int64 has_int64 hao3 (k := z) hlt _ rfl
      rw [Nat.mul_one] at hix3
      have hix4 := ix (P := Tryz.prog) (T := 42) (cap := cap4) Tryz.underlying42 cells_int64 has_int64 hao4 (k := z) hlt _ rfl
      rw [Nat.mul_one] at hix4
      have hlw : z < walls.length := by rw [HNN.out]; exact hlt
      have hlr : z < row.length := by rw [HRL.out]; exact hlt
      have hw1 : wr.cell? ⟨b3, off3 + z, none⟩ = some (.int .i64 (walls.getD z 0)) := by rw [getD_eq hlw]; exact HC3.out _ hb _ _ (by omega) (intsAt hlw)
      have hr1 : wr.cell? ⟨b4, off4 + z, none⟩ = some (.int .i64 (row.getD z 0)) := by rw [getD_eq hlr]; exact HC4.out _ hb _ _ (by omega) (intsAt hlr)
      have hbz := HBD.out z
      have hpz := HPB.out z
      have hs := HST.out z
      have HS := Lib.hid hs; clear hs
      generalize walls.getD z 0 = x at *
      generalize row.getD z 0 = y at *
      generalize momK walls row z = s at *
      have g1 : IntKind.i64.wrap (y * x) = y * x := IntWalk.i64_in _ (by omega)
      have g2 : IntKind.i64.wrap (s + y * x) = s + y * x := IntWalk.i64_in _ (by omega)
      go_wp2_with fail
      go_quiet (fail)
      clear g1 g2
      go_wp2
      go_roundw
      case rel => exact ⟨z + 1, by omega, by go_num, by rw [HS.out], Dr.trans hd ⟨_, rfl⟩⟩
      case measure => simp [intOf]; omega
    · obtain rfl : z = n := by omega
      go_wp2
      go_returns
      exact RetD.mk rfl hd

set_option maxHeartbeats 800000 in
theorem l08Area_c (g : Nat) (sv : Value) (ps : List (Int × Int × Int)) (w : World) (c1 : w.cell? ⟨g, 1, none⟩ = some sv) (hr : Rd w sv ps.length (trips ps)) (hl : 1 ≤ ps.length) (hal : ps.all ringT = true) :
    Calls Tryz.prog 179 #[.pointer (some ⟨g, 0, none⟩)] w (RetS (.int .i64 (lipI ps)) w) := by
  have hring := ringT_t (all_at hal (show 0 < ps.length by omega))
  have hlb := lip_bd (o := (rg ps 0).1) (by omega) (by omega)
  have hm := fun w' => l01Div_c (2 * (rg ps 0).1 * (2 * (rg ps 0).1)) 1000000 w' (by omega) (by omega) (by omega) (by omega)
  have HM := Lib.hid hm; clear hm
  unfold lipI
  generalize hn : ps.length = n at *
  have HN := Lib.hid hn; clear hn
  obtain ⟨hn, ao, cap, bb, off, rfl, hao, hcell⟩ := hr.open
  clear hr
  have b0 : Below w.heap.size w w := Below.refl _ _
  have z0 : w.heap.size ≤ w.heap.size := Nat.le_refl _
  have hlt_p : 0 < ps.length := by rw [HN.out]; omega
  have hix_p := ix (P := Tryz.prog) (T := 24) (cap := cap) Tryz.underlying24 cells_Ring has_Ring hao (k := 0) (by omega) 0 rfl
  rw [Nat.zero_mul, Nat.add_zero] at hix_p
  have hp0 : w.cell? ⟨bb, off, none⟩ = some (.int .i64 (rg ps 0).1) := by
    have := hcell _ b0 _ _ (by omega) (trips_at hlt_p).1
    rw [rg_eq hlt_p]
    simpa using this
  clear hcell hao
  generalize (rg ps 0).1 = x at *
  generalize rnd (2 * x * (2 * x)) 1000000 = r at *
  go_enter Tryz.func179, Tryz.ntmps179
  go_wp2_with fail
  refine (HM.out _).mono ?_
  rintro _ _ ⟨rfl, rfl⟩
  go_wp2
  go_returns
  exact RetS.mk rfl

end Go.Proofs.YtgdadbmhdljcdaaGreatDoor

/- The raw partials: the reference's list. -/
namespace Go.Proofs.YtgdadbmhdljcdaaGreatDoor
set_option linter.unusedVariables false
open Go.RowKit Go.Proofs.Bell Go.BigFrame

theorem sapp1_I {ops : Array Oper} {o : Oper} {a : Act} {K : Act → World → Prop} {Q : Exit → Act → World → Prop} {E : Prop} (s x : Operand) (W : World) (base g : Nat) (v : Value) (qs : List Int) (p : Int)
    (ho : o.op = .call { callee := .builtin .append, args := #[s, x], argTypes := #[42, 42] }) (hgd : o.guard = none) (hg : W.heap.size = g)
    (hs : a.eval s = v) (hx : a.eval x = .slice (some ⟨g, 0, none⟩) 1 1) (hown : OwnI base W v qs) (hn : qs.length ≤ 1000000) (hbase : base ≤ W.heap.size)
    (h : ∀ v' w', OwnI base w' v' (qs ++ [p]) → Only (fun b => v.ownBlock = some b) W w' → K (a.put o.dst v') w') :
    if Region.wanted o (yielded ops a.tmps) = true then Oper.wp Tryz.prog o a (W.alloc (.cells #[.int .i64 p] 2)) K Q else E := by
  have hw : Region.wanted o (yielded ops a.tmps) = true := by simp [Region.wanted, hgd]
  rw [if_pos hw]
  subst hg
  obtain ⟨i0, hi, hz0, hz1, hz2⟩ := info_parts info_int64
  refine wp_append_own _ s x 42 ho base 2 i0 _ 1 8 Tryz.underlying42 hi hz0 hz1 hz2 rfl (by decide) v qs.length (ints qs) hs (hown.alloc _) ⟨W.heap.size, 0, none⟩ 1 1 [.int .i64 p] hx rfl (World.news_of_block (cs := #[.int .i64 p]) (heap_alloc_new W _)) (fun u hu => ?_) (by unfold maxLen; omega) (by omega) (by simp; omega) ?_
  · simp at hu
    subst hu
    rfl
  · intro v' w' ho' hg' _
    refine h v' w' ?_ ((Only.of_below ((Below.refl _ _).alloc (Nat.le_refl _) _)).trans (Only.of_grown hg'))
    unfold OwnI
    simpa [ints] using ho'

end Go.Proofs.YtgdadbmhdljcdaaGreatDoor

/- The raw partials: the program's sums. -/
namespace Go.Proofs.YtgdadbmhdljcdaaGreatDoor
set_option linter.unusedVariables false
open Go.RowKit Go.Proofs.Bell Go.BigFrame

def sumsK (walls : List Int) (ws : List (List Int)) : Nat → List Int
  | 0 => []
  | k + 1 => sumsK walls ws k ++ [momK walls (ws.getD k []) walls.length]
theorem sumsK_len (walls : List Int) (ws : List (List Int)) : ∀ k, (sumsK walls ws k).length = k
  | 0 => rfl
  | k + 1 => by rw [sumsK, List.length_append, sumsK_len walls ws k]; rfl
theorem sumsK_at (walls : List Int) (ws : List (List Int)) : ∀ n k, k < n → (sumsK walls ws n).getD k 0 = momK walls (ws.getD k []) walls.length
  | 0, _, h => absurd h (Nat.not_lt_zero _)
  | n + 1, k, h => by
    have hl := sumsK_len walls ws n
    rw [sumsK]
    rcases Nat.lt_or_ge k n with h1 | h1
    · rw [← sumsK_at walls ws n k h1]
      simp only [List.getD]
      rw [List.getElem?_append_left (by omega)]
    · obtain rfl : k = n := by omega
      simp only [List.getD]
      rw [List.getElem?_append_right (by omega), hl]
      simp
def RetI1 (qs : List Int) (d : Int) (w : World) (e : Ending) (w' : World) : Prop := ∃ v, e = .returned (.tuple #[v, .int .i64 d]) ∧ OwnI w.heap.size w' v qs ∧ Below w.heap.size w w'

set_option maxHeartbeats 800000 in
theorem lip_c (nm : ByteArray) (sv : Value) (ps : List (Int × Int × Int)) (w : World) (hr : Rd w sv ps.length (trips ps)) (hl : 1 ≤ ps.length) (hal : ps.all ringT = true) :
    Calls Tryz.prog 122 #[.agg #[.string nm, sv]] w (RetB (.int .i64 (2 * (rg ps 0).1)) w) := by
  have hring := ringT_t (all_at hal (show 0 < ps.length by omega))
  generalize hn : ps.length = n at *
  have HN := Lib.hid hn; clear hn
  obtain ⟨hn, ao, cap, bb, off, rfl, hao, hcell⟩ := hr.open
  clear hr
  have hlt_p : 0 < ps.length := by rw [HN.out]; omega
  have hix_p := ix (P := Tryz.prog) (T := 24) (cap := cap) Tryz.underlying24 cells_Ring has_Ring hao (k := 0) (by omega) 0 rfl
  rw [Nat.zero_mul, Nat.add_zero] at hix_p
  have hp0 : ∀ o, (w.alloc o).cell? ⟨bb, off, none⟩ = some (.int .i64 (rg ps 0).1) := fun o => by
    have := hcell _ (Below.refl _ _) _ _ (by omega) (trips_at hlt_p).1
    rw [rg_eq hlt_p]
    exact alloc_cell o (by simpa using this)
  clear hcell hao
  generalize (rg ps 0).1 = x at *
  go_enter Tryz.func122, Tryz.ntmps122
  go_wp2
  go_returns
  exact RetB.mk rfl (by go_grown)

set_option maxRecDepth 100000 in
set_option maxHeartbeats 6400000 in
theorem weighted_c (zv wv bv : Value) (zs : List Int) (ws : List (List Int)) (bs : List Int) (nm : ByteArray) (sv : Value) (ps : List (Int × Int × Int)) (w : World) (hz : Rd w zv zs.length (ints zs)) (hw : RdSS w wv ws) (hr : Rd w sv ps.length (trips ps)) (hmb : modelB zs ws bs = true) (hl1 : 1 ≤ ps.length) (hl2 : ps.length ≤ 32) (hal : ps.all ringT = true) (hzb : zonesB zs ((ps.length : Int) - 1) = true) :
    Calls Tryz.prog 67 #[.agg #[zv, wv, bv], .agg #[.string nm, sv]] w (RetI1 (sumsK (zwK ps zs zs.length) ws 5) (lipI ps) w) := by
  obtain ⟨_, hz8, hw5, hb5, _⟩ := modelB_t hmb
  have hwa := fun w' (hx : Below w.heap.size w w') => zoneWalls_c nm sv ps zv zs w' (hr.later hx) (hz.later hx) hal hl2 hzb
  have hwl := zwK_len ps zs zs.length
  have hrow := fun k (hk : k < 5) => row_bd hmb k hk
  have hwb := zw_bd hal hzb
  have hst := fun k => (show sumsK (zwK ps zs zs.length) ws k ++ [momK (zwK ps zs zs.length) (ws.getD k []) (zwK ps zs zs.length).length] = sumsK (zwK ps zs zs.length) ws (k + 1) from rfl)
  have hsl := sumsK_len (zwK ps zs zs.length) ws
  have hli := fun w' (hx : Below w.heap.size w w') => lip_c nm sv ps w' (hr.later hx) hl1 hal
  have hring := ringT_t (all_at hal (show 0 < ps.length by omega))
  have hlb := lip_bd (o := (rg ps 0).1) (by omega) (by omega)
  have hne := fun w' => nearest_c (2 * (rg ps 0).1 * (2 * (rg ps 0).1)) 1000000 w' (by omega) (by omega) (by omega) (by omega)
  unfold lipI
  generalize zwK ps zs zs.length = walls at *
  obtain ⟨us, hus, hru, hrw⟩ := hw
  rw [hw5] at hru
  obtain ⟨hnu, aou, capu, bu, offu, rfl, haou, hcellu⟩ := hru.open
  obtain rfl : aou = some ⟨bu, offu, none⟩ := haou (by omega)
  clear haou
  have hsv : ∃ ao n cap, sv = .slice ao n cap := by obtain ⟨_, ao, cap, _, _, h, _⟩ := hr.open; exact ⟨_, _, _, h⟩
  have hzv : ∃ ao n cap, zv = .slice ao n cap := by obtain ⟨_, ao, cap, _, _, h, _⟩ := hz.open; exact ⟨_, _, _, h⟩
  obtain ⟨aos, ns, caps, rfl⟩ := hsv
  obtain ⟨aoz, nz, capz, rfl⟩ := hzv
  generalize zs.length = n at *
  have HWA := Lib.hid hwa; clear hwa
  have HROW := Lib.hid hrow; clear hrow
  have HWB := Lib.hid hwb; clear hwb
  have HST := Lib.hid hst; clear hst
  have HSL := Lib.hid hsl; clear hsl
  have HLI := Lib.hid hli; clear hli
  have HNE := Lib.hid hne; clear hne
  have HCU := Lib.hid hcellu; clear hcellu
  have HRW := Lib.hid hrw; clear hrw
  have HUS := Lib.hid hus; clear hus
  have HW5 := Lib.hid hw5; clear hw5
  clear hz hr hmb hal hzb hru
  generalize (rg ps 0).1 = x0 at *
  generalize rnd (2 * x0 * (2 * x0)) 1000000 = dv at *
  go_enter Tryz.func67, Tryz.ntmps67
  have b0 : Below w.heap.size w w := Below.refl _ _
  have z0 : w.heap.size ≤ w.heap.size := Nat.le_refl _
  go_wp2_with fail
  refine (HWA.out _ (by go_grown)).mono ?_
  rintro _ w1 ⟨x1, rfl, n1, r1⟩
  have s1 : Below w.heap.size w w1 := Below.trans (by go_grown) (r1.mono (by simp; try omega))
  have b1 := b0.trans (s1.mono z0)
  have z1 := b1.size
  have y1 := s1.size
  have c0_0_1 := below_cell r1 (p := ⟨w.heap.size, 0, none⟩) (v := .slice aoz nz capz) (by simp [go_sem])
  have c0_1_1 := below_cell r1 (p := ⟨w.heap.size, 1, none⟩) (v := .slice (some ⟨bu, offu, none⟩) 5 capu) (by simp [go_sem])
  have c0_2_1 := below_cell r1 (p := ⟨w.heap.size, 2, none⟩) (v := bv) (by simp [go_sem])
  have c1_0_1 := below_cell r1 (p := ⟨w.heap.size + 1, 0, none⟩) (v := .string nm) (by simp [go_sem])
  have c1_1_1 := below_cell r1 (p := ⟨w.heap.size + 1, 1, none⟩) (v := .slice aos ns caps) (by simp [go_sem])
  clear r1
  obtain ⟨aw, cw, rfl⟩ := own_shape n1
  have rdw : Rd w1 (.slice aw n cw) n (ints walls) := by
    have h := Rd.of_own n1
    rw [hwl] at h
    exact h
  have RDW := Lib.hid rdw; clear rdw
  clear n1
  subst hwl
  have zz9 : w.heap.size + 1 < w1.heap.size := World.block_lt_of_cell? _ ⟨w.heap.size + 1, 0, none⟩ c1_0_1
  go_wp2_with fail
  go_loopw [20, 7] (fun i u wr => ∃ (k : Nat), k ≤ 5 ∧ i = .int .i64 k ∧ OwnI w1.heap.size wr u (sumsK walls ws k) ∧ Below w1.heap.size w1 wr ∧ Below w.heap.size w wr ∧ wr.cell? ⟨w.heap.size, 0, none⟩ = some (.slice aoz nz capz) ∧ wr.cell? ⟨w.heap.size, 1, none⟩ = some (.slice (some ⟨bu, offu, none⟩) 5 capu) ∧ wr.cell? ⟨w.heap.size, 2, none⟩ = some (bv) ∧ wr.cell? ⟨w.heap.size + 1, 0, none⟩ = some (.string nm) ∧ wr.cell? ⟨w.heap.size + 1, 1, none⟩ = some (.slice aos ns caps)) (fun i u _ => 5 - (intOf i).toNat)
  case atStart => exact ⟨0, Nat.zero_le _, rfl, World.ownsRow_nil _ _ _ _, Below.refl _ _, b1, c0_0_1, c0_1_1, c0_2_1, c1_0_1, c1_1_1⟩
  case round =>
    obtain ⟨k, hk, rfl, ho, hb1, br0, c0_0_r0, c0_1_r0, c0_2_r0, c1_0_r0, c1_1_r0⟩ := hrel
    have zr0 := br0.size
    have hlk := HSL.out k
    have hlo := own_lo ho
    have HO := Lib.hid ho; clear ho
    have LO := Lib.hid hlo; clear hlo
    by_cases hlt : k < 5
    · have q1 : (0 : Int) ≤ (k : Int) := by omega
      have q2 : (k : Int) < 5 := by omega
      have hix2 := ix (P := Tryz.prog) (T := 43) (n := 5) (cap := capu) Tryz.underlying43 cells_SS has_SS (ao := some ⟨bu, offu, none⟩) (b := bu) (off := offu) (fun _ => rfl) (k := k) hlt _ rfl
      rw [Nat.mul_one] at hix2
      have hrc : wr.cell? ⟨bu, offu + k, none⟩ = some (us.getD k nv) := HCU.out _ br0 _ _ (by omega) (getDv (by rw [HUS.out, HW5.out]; exact hlt))
      have hrowk := HRW.out k (by rw [HW5.out]; exact hlt)
      obtain ⟨hrl, hrb, _, _⟩ := HROW.out k hlt
      have hbd := momK_bd HWB.out hrb
      have hpb := prodm_bd HWB.out hrb
      have hs := HST.out k
      have hmst := fun z => (show momK walls (ws.getD k []) (z + 1) = momK walls (ws.getD k []) z + (ws.getD k []).getD z 0 * walls.getD z 0 from rfl)
      generalize ws.getD k [] = row at *
      generalize us.getD k nv = uk at *
      rw [hrl] at hrowk
      obtain ⟨hn4, ao4, cap4, b4, off4, rfl, hao4, hcell4⟩ := hrowk.open
      clear hrowk
      have rdw := RDW.out.later hb1
      obtain ⟨hn3, ao3, cap3, b3, off3, hv3, hao3, hcell3⟩ := rdw.open
      cases hv3
      have HBD := Lib.hid hbd; clear hbd
      have HPB := Lib.hid hpb; clear hpb
      have HS := Lib.hid hs; clear hs
      have HMST := Lib.hid hmst; clear hmst
      have HC3 := Lib.hid hcell3; clear hcell3
      have HC4 := Lib.hid hcell4; clear hcell4
      have HRL := Lib.hid hrl; clear hrl
      have RDW2 := Lib.hid rdw; clear rdw
      have hbq := br0
      have hzq := zr0
      have hz1q := hb1.size
      generalize wr = wq at *
      go_wp2_with fail
      go_loopw [26, 10] (fun i s wr => ∃ (z : Nat), z ≤ walls.length ∧ i = .int .i64 z ∧ s = .int .i64 (momK walls row z) ∧ Below wq.heap.size wq wr) (fun i _ _ => walls.length - (intOf i).toNat)
      case atStart => exact ⟨0, Nat.zero_le _, rfl, rfl, Below.refl _ _⟩
      case round =>
        obtain ⟨z, hz, rfl, rfl, hbi⟩ := hrel
        by_cases hltz : z < walls.length
        · have hix3 := ix (P := Tryz.prog) (T := 42) (cap := cw) Tryz.underlying42 cells_int64 has_int64 hao3 (k := z) hltz _ rfl
          rw [Nat.mul_one] at hix3
          have hix4 := ix (P := Tryz.prog) (T := 42) (cap := cap4) Tryz.underlying42 cells_int64 has_int64 hao4 (k := z) hltz _ rfl
          rw [Nat.mul_one] at hix4
          have hlw : z < walls.length := hltz
          have hlr : z < row.length := by rw [HRL.out]; exact hltz
          have hw1 : wr.cell? ⟨b3, off3 + z, none⟩ = some (.int .i64 (walls.getD z 0)) := by rw [getD_eq hlw]; exact HC3.out _ hbi _ _ (by omega) (intsAt hlw)
          have hr1 : wr.cell? ⟨b4, off4 + z, none⟩ = some (.int .i64 (row.getD z 0)) := by rw [getD_eq hlr]; exact HC4.out _ (hbq.trans (hbi.mono hzq)) _ _ (by omega) (intsAt hlr)
          have hbz := HBD.out z
          have hpz := HPB.out z
          have hsz := HMST.out z
          have HSZ := Lib.hid hsz; clear hsz
          generalize walls.getD z 0 = x at *
          generalize row.getD z 0 = y at *
          generalize momK walls row z = s at *
          have g1 : IntKind.i64.wrap (y * x) = y * x := IntWalk.i64_in _ (by omega)
          have g2 : IntKind.i64.wrap (s + y * x) = s + y * x := IntWalk.i64_in _ (by omega)
          go_wp2
          go_roundw
          case rel => exact ⟨z + 1, by omega, by go_num, by rw [HSZ.out], hbi⟩
          case measure => simp [intOf]; omega
        · obtain rfl : z = walls.length := by omega
          have sr1 := hbi
          have br1 := br0.trans (sr1.mono zr0)
          have zr1 := br1.size
          have yr1 := sr1.size
          have c0_0_r1 := below_cell sr1 c0_0_r0; clear c0_0_r0
          have c0_1_r1 := below_cell sr1 c0_1_r0; clear c0_1_r0
          have c0_2_r1 := below_cell sr1 c0_2_r0; clear c0_2_r0
          have c1_0_r1 := below_cell sr1 c1_0_r0; clear c1_0_r0
          have c1_1_r1 := below_cell sr1 c1_1_r0; clear c1_1_r0
          have o1_r1 := own_later HO.out sr1; have O1_r1 := Lib.hid o1_r1; clear o1_r1
          have hs := HS.out
          have HS' := Lib.hid hs; clear hs
          generalize momK walls row walls.length = mo at *
          go_wp2_with (at_builtin; refine app_I (.tmp 40) (.tmp 42) _ _ _ _ _ (by rfl) (by rfl) (by rfl) (by rfl) O1_r1.out (by omega) (Nat.le_trans hz1q hbi.size) ?_; intro v2 w9 o9 q9)
          have d0 := cell_only q9 c0_0_r1 (fun h => by have := LO.out _ h; simp at this; omega)
          have d1 := cell_only q9 c0_1_r1 (fun h => by have := LO.out _ h; simp at this; omega)
          have d2 := cell_only q9 c0_2_r1 (fun h => by have := LO.out _ h; simp at this; omega)
          have d3 := cell_only q9 c1_0_r1 (fun h => by have := LO.out _ h; simp at this; omega)
          have d4 := cell_only q9 c1_1_r1 (fun h => by have := LO.out _ h; simp at this; omega)
          have hb2 := Only.below br1 q9 zr1 (fun k h => by have := LO.out k h; omega)
          have hb3 := Only.below (hb1.trans (hbi.mono hz1q)) q9 (Nat.le_trans hz1q hbi.size) (fun k h => LO.out k h)
          go_wp2
          go_roundw
          case rel => exact ⟨k + 1, by omega, by go_num, by rw [← HS'.out]; exact o9, hb3, hb2, d0, d1, d2, d3, d4⟩
          case measure => simp [intOf]; omega
    · obtain rfl : k = 5 := by omega
      have e0 : ∀ s : Lat wr, s.world.cell? ⟨w.heap.size + 1, 0, none⟩ = some (.string nm) := fun s => s.cell c1_0_r0
      have e1 : ∀ s : Lat wr, s.world.cell? ⟨w.heap.size + 1, 1, none⟩ = some (.slice aos ns caps) := fun s => s.cell c1_1_r0
      have hbw := br0
      have hzw := zr0
      have hls : ∀ s : Lat wr, Calls Tryz.prog 122 #[.agg #[.string nm, .slice aos ns caps]] s.world (RetB (.int .i64 (2 * x0)) s.world) := fun s => HLI.out _ (hbw.trans (s.below.mono hzw))
      have HLS := Lib.hid hls; clear hls
      have g1 : IntKind.i64.wrap (2 * x0 * (2 * x0)) = 2 * x0 * (2 * x0) := IntWalk.i64_in _ (by omega)
      go_wp2_with fail
      refine wp_region_lat (by kernel_rfl) (by kernel_rfl) ?_
      repeat (go_big_quiet_step (first | (go_at_call 122; exact Lat.callB (HLS.out _)) | (go_at_call 70; exact Lat.callD (HNE.out _))))
      refine wpQuiet_nil ?_
      rintro _ ⟨s, rfl⟩
      have b9 := hbw.trans (s.below.mono hzw)
      have o9 := own_later HO.out s.below
      clear e0 e1 g1
      go_wp2
      go_returns
      exact ⟨_, rfl, own_base o9 (by omega), b9⟩

end Go.Proofs.YtgdadbmhdljcdaaGreatDoor

/- The raw partials: the program's list; RawPartials, both. -/
namespace Go.Proofs.YtgdadbmhdljcdaaGreatDoor
set_option linter.unusedVariables false
open Go.RowKit Go.Proofs.Bell Go.BigFrame

set_option maxRecDepth 100000 in
set_option maxHeartbeats 6400000 in
theorem rawPartials_c (zv wv bv : Value) (zs : List Int) (ws : List (List Int)) (bs : List Int) (nm : ByteArray) (sv : Value) (ps : List (Int × Int × Int)) (w : World) (hz : Rd w zv zs.length (ints zs)) (hw : RdSS w wv ws) (hb : Rd w bv bs.length (ints bs)) (hr : Rd w sv ps.length (trips ps)) (hmb : modelB zs ws bs = true) (hl1 : 1 ≤ ps.length) (hl2 : ps.length ≤ 32) (hal : ps.all ringT = true) (hzb : zonesB zs ((ps.length : Int) - 1) = true) :
    Calls Tryz.prog 72 #[.agg #[zv, wv, bv], .agg #[.string nm, sv]] w (RetOwnI (rawL ps zs ws bs) w) := by
  obtain ⟨_, hz8, hw5, hb5, _⟩ := modelB_t hmb
  have hwe := fun w' (hx : Below w.heap.size w w') => weighted_c zv wv bv zs ws bs nm sv ps w' (hz.later hx) (hw.later hx) (hr.later hx) hmb hl1 hl2 hal hzb
  have hwl := zwK_len ps zs zs.length
  have hlb := lipI_bd hl1 hal
  have hmbd := fun k (hk : k < 5) => (momK_bd (walls := zwK ps zs zs.length) (row := ws.getD k []) (zw_bd hal hzb) (row_bd hmb k hk).2.1 (zwK ps zs zs.length).length)
  have hbb := fun k (hk : k < 5) => (row_bd hmb k hk).2.2
  have hst := fun k => (show rawK (zwK ps zs zs.length) ws bs (lipI ps) k ++ [rnd (bs.getD k 0 * momK (zwK ps zs zs.length) (ws.getD k []) (zwK ps zs zs.length).length) (lipI ps)] = rawK (zwK ps zs zs.length) ws bs (lipI ps) (k + 1) from rfl)
  have hrl := rawK_len (zwK ps zs zs.length) ws bs (lipI ps)
  have hsl := sumsK_len (zwK ps zs zs.length) ws 5
  have hsa := fun k (hk : k < 5) => sumsK_at (zwK ps zs zs.length) ws 5 k hk
  unfold rawL
  have hwl2 : (zwK ps zs zs.length).length ≤ 8 := by omega
  generalize zwK ps zs zs.length = walls at *
  generalize sumsK walls ws 5 = sums at *
  rw [hb5] at hb
  obtain ⟨hn3, ao3, cap3, b3, off3, rfl, hao3, hcell3⟩ := hb.open
  have hsv : ∃ ao n cap, sv = .slice ao n cap := by obtain ⟨_, ao, cap, _, _, h, _⟩ := hr.open; exact ⟨_, _, _, h⟩
  have hzv : ∃ ao n cap, zv = .slice ao n cap := by obtain ⟨_, ao, cap, _, _, h, _⟩ := hz.open; exact ⟨_, _, _, h⟩
  have hwv : ∃ ao n cap, wv = .slice ao n cap := by obtain ⟨us, _, hru, _⟩ := hw; obtain ⟨_, ao, cap, _, _, h, _⟩ := hru.open; exact ⟨_, _, _, h⟩
  obtain ⟨aos, ns, caps, rfl⟩ := hsv
  obtain ⟨aoz, nz, capz, rfl⟩ := hzv
  obtain ⟨aow, nw, capw, rfl⟩ := hwv
  obtain rfl : ao3 = some ⟨b3, off3, none⟩ := hao3 (by omega)
  clear hao3 hz hb hw hr hmb hal hzb hwl
  have HWE := Lib.hid hwe; clear hwe
  have HMBD := Lib.hid hmbd; clear hmbd
  have HBB := Lib.hid hbb; clear hbb
  have HST := Lib.hid hst; clear hst
  have HRL := Lib.hid hrl; clear hrl
  have HC3 := Lib.hid hcell3; clear hcell3
  have HB5 := Lib.hid hb5; clear hb5
  have HSA := Lib.hid hsa; clear hsa
  have HW5 := Lib.hid hw5; clear hw5
  generalize lipI ps = d at *
  go_enter Tryz.func72, Tryz.ntmps72
  have b0 : Below w.heap.size w w := Below.refl _ _
  have z0 : w.heap.size ≤ w.heap.size := Nat.le_refl _
  go_wp2_with fail
  refine (HWE.out _ (by go_grown)).mono ?_
  rintro _ w1 ⟨x1, rfl, n1, r1⟩
  have s1 : Below w.heap.size w w1 := Below.trans (by go_grown) (r1.mono (by simp; try omega))
  have b1 := b0.trans (s1.mono z0)
  have z1 := b1.size
  have y1 := s1.size
  have c0_0_1 := below_cell r1 (p := ⟨w.heap.size, 0, none⟩) (v := .slice aoz nz capz) (by simp [go_sem])
  have c0_1_1 := below_cell r1 (p := ⟨w.heap.size, 1, none⟩) (v := .slice aow nw capw) (by simp [go_sem])
  have c0_2_1 := below_cell r1 (p := ⟨w.heap.size, 2, none⟩) (v := .slice (some ⟨b3, off3, none⟩) 5 cap3) (by simp [go_sem])
  have c1_0_1 := below_cell r1 (p := ⟨w.heap.size + 1, 0, none⟩) (v := .string nm) (by simp [go_sem])
  have c1_1_1 := below_cell r1 (p := ⟨w.heap.size + 1, 1, none⟩) (v := .slice aos ns caps) (by simp [go_sem])
  clear r1
  obtain ⟨ax, cx, rfl⟩ := own_shape n1
  have rdx : Rd w1 (.slice ax 5 cx) 5 (ints sums) := by
    have h := Rd.of_own n1
    rw [hsl] at h
    exact h
  obtain ⟨hn4, ao4, cap4, b4, off4, hv4, hao4, hcell4⟩ := rdx.open
  cases hv4
  have HC4 := Lib.hid hcell4; clear hcell4
  clear rdx n1
  rw [hsl]
  have HSL := Lib.hid hsl; clear hsl
  have zz9 : w.heap.size + 1 < w1.heap.size := World.block_lt_of_cell? _ ⟨w.heap.size + 1, 0, none⟩ c1_0_1
  go_wp2_with fail
  go_loopw [18, 7] (fun i u wr => ∃ (k : Nat), k ≤ 5 ∧ i = .int .i64 k ∧ OwnI w1.heap.size wr u (rawK walls ws bs d k) ∧ Below w1.heap.size w1 wr ∧ Below w.heap.size w wr ∧ wr.cell? ⟨w.heap.size, 0, none⟩ = some (.slice aoz nz capz) ∧ wr.cell? ⟨w.heap.size, 1, none⟩ = some (.slice aow nw capw) ∧ wr.cell? ⟨w.heap.size, 2, none⟩ = some (.slice (some ⟨b3, off3, none⟩) 5 cap3) ∧ wr.cell? ⟨w.heap.size + 1, 0, none⟩ = some (.string nm) ∧ wr.cell? ⟨w.heap.size + 1, 1, none⟩ = some (.slice aos ns caps)) (fun i u _ => 5 - (intOf i).toNat)
  case atStart => exact ⟨0, Nat.zero_le _, rfl, World.ownsRow_nil _ _ _ _, Below.refl _ _, b1, c0_0_1, c0_1_1, c0_2_1, c1_0_1, c1_1_1⟩
  case round =>
    obtain ⟨k, hk, rfl, ho, hb1, br0, c0_0_r0, c0_1_r0, c0_2_r0, c1_0_r0, c1_1_r0⟩ := hrel
    have zr0 := br0.size
    have hlk := HRL.out k
    have hlo := own_lo ho
    have HO := Lib.hid ho; clear ho
    have LO := Lib.hid hlo; clear hlo
    by_cases hlt : k < 5
    · have q1 : (0 : Int) ≤ (k : Int) := by omega
      have q2 : (k : Int) < 5 := by omega
      have hix3 := ix (P := Tryz.prog) (T := 42) (n := 5) (cap := cap3) Tryz.underlying42 cells_int64 has_int64 (ao := some ⟨b3, off3, none⟩) (b := b3) (off := off3) (fun _ => rfl) (k := k) hlt _ rfl
      rw [Nat.mul_one] at hix3
      have hix4 := ix (P := Tryz.prog) (T := 42) (n := 5) (cap := cx) Tryz.underlying42 cells_int64 has_int64 hao4 (k := k) hlt _ rfl
      rw [Nat.mul_one] at hix4
      have hlb5 : k < bs.length := by rw [HB5.out]; exact hlt
      have hls5 : k < sums.length := by rw [HSL.out]; exact hlt
      have hb3' : wr.cell? ⟨b3, off3 + k, none⟩ = some (.int .i64 (bs.getD k 0)) := by rw [getD_eq hlb5]; exact HC3.out _ br0 _ _ (by omega) (intsAt hlb5)
      have hs4 : wr.cell? ⟨b4, off4 + k, none⟩ = some (.int .i64 (sums.getD k 0)) := by rw [getD_eq hls5]; exact HC4.out _ hb1 _ _ (by omega) (intsAt hls5)
      rw [HSA.out k hlt] at hs4
      have hm := HMBD.out k hlt
      have hbk := HBB.out k hlt
      have hpr := base_bd hbk.1 hbk.2 hm.1 (by omega)
      have hdv := fun w' => nearest_c (bs.getD k 0 * momK walls (ws.getD k []) walls.length) d w' (by omega) (by omega) (by omega) (by omega)
      have hs := HST.out k
      have HDV := Lib.hid hdv; clear hdv
      have HS := Lib.hid hs; clear hs
      generalize bs.getD k 0 = bk at *
      generalize momK walls (ws.getD k []) walls.length = mo at *
      generalize rnd (bk * mo) d = res at *
      generalize rawK walls ws bs d k = qs at *
      have g1 : IntKind.i64.wrap (bk * mo) = bk * mo := IntWalk.i64_in _ (by omega)
      go_wp2_with fail
      refine (HDV.out _).mono ?_
      rintro _ wr1 ⟨rfl, dr1⟩
      have rr1 := Dr.below dr1; clear dr1
      have sr1 := rr1
      have br1 := br0.trans (sr1.mono zr0)
      have zr1 := br1.size
      have yr1 := sr1.size
      have c0_0_r1 := below_cell sr1 c0_0_r0; clear c0_0_r0
      have c0_1_r1 := below_cell sr1 c0_1_r0; clear c0_1_r0
      have c0_2_r1 := below_cell sr1 c0_2_r0; clear c0_2_r0
      have c1_0_r1 := below_cell sr1 c1_0_r0; clear c1_0_r0
      have c1_1_r1 := below_cell sr1 c1_1_r0; clear c1_1_r0
      have o1_r1 := own_later HO.out sr1; have O1_r1 := Lib.hid o1_r1; clear o1_r1
      clear rr1
      have zz3 : w1.heap.size ≤ wr1.heap.size := Nat.le_trans hb1.size yr1
      go_wp2_with (at_builtin; refine app_I (.tmp 23) (.tmp 33) _ _ _ _ _ (by rfl) (by rfl) (by rfl) (by rfl) O1_r1.out (by omega) zz3 ?_; intro v2 w9 o9 q9)
      have d0 := cell_only q9 c0_0_r1 (fun h => by have := LO.out _ h; simp at this; omega)
      have d1 := cell_only q9 c0_1_r1 (fun h => by have := LO.out _ h; simp at this; omega)
      have d2 := cell_only q9 c0_2_r1 (fun h => by have := LO.out _ h; simp at this; omega)
      have d3 := cell_only q9 c1_0_r1 (fun h => by have := LO.out _ h; simp at this; omega)
      have d4 := cell_only q9 c1_1_r1 (fun h => by have := LO.out _ h; simp at this; omega)
      have hb2 := Only.below br1 q9 zr1 (fun k h => by have := LO.out k h; omega)
      have hb4 := Only.below (hb1.trans (sr1.mono hb1.size)) q9 zz3 (fun k h => LO.out k h)
      go_wp2
      go_roundw
      case rel => exact ⟨k + 1, by omega, by go_num, by rw [← HS.out]; exact o9, hb4, hb2, d0, d1, d2, d3, d4⟩
      case measure => simp [intOf]; omega
    · obtain rfl : k = 5 := by omega
      go_wp2
      go_returns
      exact ⟨_, rfl, own_base HO.out (by omega), br0⟩

set_option maxRecDepth 100000 in
set_option maxHeartbeats 1600000 in
theorem implRawPartials_c (zv wv bv : Value) (zs : List Int) (ws : List (List Int)) (bs : List Int) (nm : ByteArray) (sv : Value) (ps : List (Int × Int × Int)) (w : World) (hz : Rd w zv zs.length (ints zs)) (hw : RdSS w wv ws) (hb : Rd w bv bs.length (ints bs)) (hnm : nm.size ≤ maxLen) (hr : Rd w sv ps.length (trips ps)) :
    Calls Tryz.prog 23 #[.agg #[zv, wv, bv], .agg #[.string nm, sv]] w (RetI2 (rawI zs ws bs nm ps).1 (.int .i64 (rawI zs ws bs nm ps).2) w) := by
  have hask := fun w' (hx : Below w.heap.size w w') => modelled_c zv wv bv zs ws bs nm sv ps w' (hz.later hx) (hw.later hx) (hb.later hx) hnm (hr.later hx)
  by_cases t0 : ¬ modAsk zs ws bs nm ps = 0
  · have he : rawI zs ws bs nm ps = ([], modAsk zs ws bs nm ps) := by simp [rawI, t0]
    rw [he]
    generalize modAsk zs ws bs nm ps = code at *
    have HASK := Lib.hid hask; clear hask
    clear he hz hw hb hr
    go_enter Tryz.func23, Tryz.ntmps23
    have b0 : Below w.heap.size w w := Below.refl _ _
    have z0 : w.heap.size ≤ w.heap.size := Nat.le_refl _
    go_wp2_with fail
    refine (HASK.out _ (by go_grown)).mono ?_
    rintro _ w1 ⟨rfl, r1⟩
    have s1 : Below w.heap.size w w1 := Below.trans (by go_grown) (r1.mono (by simp; try omega))
    have b1 := b0.trans (s1.mono z0)
    have z1 := b1.size
    have y1 := s1.size
    have c0_0_1 := below_cell r1 (p := ⟨w.heap.size, 0, none⟩) (v := zv) (by simp [go_sem])
    have c0_1_1 := below_cell r1 (p := ⟨w.heap.size, 1, none⟩) (v := wv) (by simp [go_sem])
    have c0_2_1 := below_cell r1 (p := ⟨w.heap.size, 2, none⟩) (v := bv) (by simp [go_sem])
    have c1_0_1 := below_cell r1 (p := ⟨w.heap.size + 1, 0, none⟩) (v := .string nm) (by simp [go_sem])
    have c1_1_1 := below_cell r1 (p := ⟨w.heap.size + 1, 1, none⟩) (v := sv) (by simp [go_sem])
    clear r1
    go_wp2
    go_returns
    exact ⟨_, rfl, World.ownsRow_nil _ _ _ _, b1⟩
  · have t0 : modAsk zs ws bs nm ps = 0 := Classical.not_not.1 t0
    have he : rawI zs ws bs nm ps = (rawL ps zs ws bs, 0) := by simp [rawI, t0]
    rw [he]
    rw [t0] at hask
    obtain ⟨t1, t2, t3⟩ := modAsk_ok t0
    obtain ⟨hl1, hl2, hal, hht⟩ := profB_t t2
    have hrw := fun w' (hx : Below w.heap.size w w') => rawPartials_c zv wv bv zs ws bs nm sv ps w' (hz.later hx) (hw.later hx) (hb.later hx) (hr.later hx) t1 hl1 hl2 hal t3
    have HASK := Lib.hid hask; clear hask
    have HRW := Lib.hid hrw; clear hrw
    clear he hz hw hb hr t0 t1 t2 t3 hal hht
    generalize rawL ps zs ws bs = RES at *
    go_enter Tryz.func23, Tryz.ntmps23
    have b0 : Below w.heap.size w w := Below.refl _ _
    have z0 : w.heap.size ≤ w.heap.size := Nat.le_refl _
    go_wp2_with fail
    refine (HASK.out _ (by go_grown)).mono ?_
    rintro _ w1 ⟨rfl, r1⟩
    have s1 : Below w.heap.size w w1 := Below.trans (by go_grown) (r1.mono (by simp; try omega))
    have b1 := b0.trans (s1.mono z0)
    have z1 := b1.size
    have y1 := s1.size
    have c0_0_1 := below_cell r1 (p := ⟨w.heap.size, 0, none⟩) (v := zv) (by simp [go_sem])
    have c0_1_1 := below_cell r1 (p := ⟨w.heap.size, 1, none⟩) (v := wv) (by simp [go_sem])
    have c0_2_1 := below_cell r1 (p := ⟨w.heap.size, 2, none⟩) (v := bv) (by simp [go_sem])
    have c1_0_1 := below_cell r1 (p := ⟨w.heap.size + 1, 0, none⟩) (v := .string nm) (by simp [go_sem])
    have c1_1_1 := below_cell r1 (p := ⟨w.heap.size + 1, 1, none⟩) (v := sv) (by simp [go_sem])
    clear r1
    go_wp2_with fail
    refine (HRW.out _ b1).mono ?_
    rintro _ w2 ⟨x2, rfl, n2, r2⟩
    have s2 := r2
    have b2 := b1.trans (s2.mono z1)
    have z2 := b2.size
    have y2 := s2.size
    have c0_0_2 := below_cell s2 c0_0_1; clear c0_0_1
    have c0_1_2 := below_cell s2 c0_1_1; clear c0_1_1
    have c0_2_2 := below_cell s2 c0_2_1; clear c0_2_1
    have c1_0_2 := below_cell s2 c1_0_1; clear c1_0_1
    have c1_1_2 := below_cell s2 c1_1_1; clear c1_1_1
    clear r2
    go_wp2
    go_returns
    exact ⟨_, rfl, own_base n2 (by omega), b2⟩

end Go.Proofs.YtgdadbmhdljcdaaGreatDoor

