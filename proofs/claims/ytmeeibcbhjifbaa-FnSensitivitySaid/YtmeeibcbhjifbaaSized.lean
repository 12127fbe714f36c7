/- A profile of another size: the reference's l07Sized. -/
import Derived.Test.YtmeeibcbhjifbaaBld
import Derived.Test.YtmeeibcbhjifbaaPitch
import Derived.BigQuiet
namespace Go.Proofs.Ytmeeibcbhjifbaa
set_option linter.unusedVariables false
open Go.RowKit Go.Proofs.Bell Go.BigFrame

def scT (num den : Int) (_ : Nat) (r : Int × Int × Int) : Int × Int × Int := (rnd (r.1 * num) den, rnd (r.2.1 * num) den, rnd (r.2.2 * num) den)

theorem mulsc_bd {x num : Int} (h1 : 0 ≤ x) (h2 : x ≤ 300000) (h3 : 1 ≤ num) (h4 : num ≤ 20000000) : 0 ≤ x * num ∧ x * num ≤ 6000000000000 := by
  refine ⟨Int.mul_nonneg h1 (by omega), ?_⟩
  have := Int.mul_le_mul h2 h4 (by omega) (by omega : (0 : Int) ≤ 300000)
  omega

set_option maxRecDepth 100000 in
set_option maxHeartbeats 6400000 in
theorem l07SizedO_c (g o : Nat) (nm : ByteArray) (sv : Value) (ps : List (Int × Int × Int)) (num den : Int) (w : World) (hg : g < w.heap.size) (c0 : w.cell? ⟨g, o, none⟩ = some (.string nm)) (c1 : w.cell? ⟨g, o + 1, none⟩ = some sv) (hr : Rd w sv ps.length (trips ps)) (hal : ps.all ringT = true) (hl : ps.length ≤ 32)
    (n1 : 1 ≤ num) (n2 : num ≤ 20000000) (n3 : 1 ≤ den) (n4 : den ≤ 20000000) :
    Calls Try.prog 38 #[.pointer (some ⟨g, o, none⟩), .int .i64 num, .int .i64 den] w (RetOwnP nm (mapK (scT num den) ps ps.length) w) := by
  have hln := mapK_len (scT num den) ps
  have HLN := Lib.hid hln; clear hln
  have HAL := Lib.hid hal; clear hal
  generalize hn : ps.length = n at *
  have HN := Lib.hid hn; clear hn
  obtain ⟨hn, ao, cap, bb, off, rfl, hao, hcell⟩ := hr.open
  clear hr
  have d0 := fun o => alloc_cell o c0
  have d1 := fun o => alloc_cell o c1
  have hco : ∀ wr, Below w.heap.size w wr → wr.cell? ⟨g, o + 1, none⟩ = some (.slice ao n cap) := fun wr hb => below_cell hb c1
  have HCO := Lib.hid hco; clear hco
  go_enter Try.func38, Try.ntmps38
  go_wp2_with fail
  go_loopw [8] (fun i wr => ∃ (k : Nat) (ao' : Option Addr) (c' : Nat), k ≤ n ∧ i = .int .i64 k ∧ Bld w.heap.size (w.heap.size + 1) nm (.slice ao' k c') (mapK (scT num den) ps k) w wr) (fun i _ => n - (intOf i).toNat)
  case atStart => exact ⟨0, none, 0, Nat.zero_le _, rfl, ⟨by go_grown, Nat.le_refl _, by omega, by simp [go_sem], by simp [go_sem], by simp [go_sem], by simp [go_sem], by simp [go_sem], by simp [go_sem], World.ownsRow_nil _ _ _ _⟩⟩
  case round =>
    obtain ⟨k, ao', c', hk, rfl, hR⟩ := hrel
    have br := hR.below
    have zr := hR.size
    have hlk := HLN.out k
    have HR := Lib.hid hR; clear hR
    have ea := HCO.out wr br
    clear d0 d1 c0 c1
    by_cases hlt : k < n
    · have hlt_p : k < ps.length := by rw [HN.out]; exact hlt
      have hix_p := ix (P := Try.prog) (T := 29) (cap := cap) Try.underlying29 cells_Ring has_Ring hao (k := k) hlt _ rfl
      have hp0 : wr.cell? ⟨bb, off + k * 3, none⟩ = some (.int .i64 (rg ps k).1) := by rw [rg_eq hlt_p]; exact hcell _ br _ _ (by omega) (trips_at hlt_p).1
      have hp1 : wr.cell? ⟨bb, off + k * 3 + 1, none⟩ = some (.int .i64 (rg ps k).2.1) := by rw [rg_eq hlt_p]; exact hcell _ br _ _ (by omega) (trips_at hlt_p).2.1
      have hp2 : wr.cell? ⟨bb, off + k * 3 + 2, none⟩ = some (.int .i64 (rg ps k).2.2) := by rw [rg_eq hlt_p]; exact hcell _ br _ _ (by omega) (trips_at hlt_p).2.2
      have hring := ringT_t (all_at HAL.out hlt_p)
      have hstep : mapK (scT num den) ps k ++ [(rnd ((rg ps k).1 * num) den, rnd ((rg ps k).2.1 * num) den, rnd ((rg ps k).2.2 * num) den)] = mapK (scT num den) ps (k + 1) := rfl
      have k0 := mulsc_bd (x := (rg ps k).1) (num := num) (by omega) (by omega) n1 n2
      have k1 := mulsc_bd (x := (rg ps k).2.1) (num := num) (by omega) (by omega) n1 n2
      have k2 := mulsc_bd (x := (rg ps k).2.2) (num := num) (by omega) (by omega) n1 n2
      have hbx := fun (a : Int) w' (h : 0 ≤ a ∧ a ≤ 6000000000000) => l01Div_c a den w' (by omega) (by omega) (by omega) (by omega)
      clear hcell
      generalize (rg ps k).1 = x0 at *
      generalize (rg ps k).2.1 = x1 at *
      generalize (rg ps k).2.2 = x2 at *
      generalize mapK (scT num den) ps k = rs at *
      have HS := Lib.hid hstep; clear hstep
      have HBX := Lib.hid hbx; clear hbx
      have g0 : IntKind.i64.wrap (x0 * num) = x0 * num := IntWalk.i64_in _ (by omega)
      have g1 : IntKind.i64.wrap (x1 * num) = x1 * num := IntWalk.i64_in _ (by omega)
      have g2 : IntKind.i64.wrap (x2 * num) = x2 * num := IntWalk.i64_in _ (by omega)
      have K0 := Lib.hid k0; clear k0
      have K1 := Lib.hid k1; clear k1
      have K2 := Lib.hid k2; clear k2
      go_wp2_with fail
      obtain ⟨W1, hW1⟩ : ∃ x, x = wr.alloc (.cells #[.int .i64 x0, .int .i64 x1, .int .i64 x2] 135) := ⟨_, rfl⟩
      rw [← hW1]
      have kb : Below wr.heap.size wr W1 := by rw [hW1]; go_grown
      have T1 := HR.out.later kb
      have p0 : ∀ s : Lat W1, s.world.cell? ⟨wr.heap.size, 0, none⟩ = some (.int .i64 x0) := fun s => s.cell (by rw [hW1]; simp [go_sem])
      have p1 : ∀ s : Lat W1, s.world.cell? ⟨wr.heap.size, 1, none⟩ = some (.int .i64 x1) := fun s => s.cell (by rw [hW1]; simp [go_sem])
      have p2 : ∀ s : Lat W1, s.world.cell? ⟨wr.heap.size, 2, none⟩ = some (.int .i64 x2) := fun s => s.cell (by rw [hW1]; simp [go_sem])
      have p6 : ∀ s : Lat W1, s.world.cell? ⟨w.heap.size + 1, 1, none⟩ = some (.slice ao' k c') := fun s => s.cell T1.q1
      have T1' := Lib.hid T1; clear T1
      clear hW1 hp0 hp1 hp2 hix_p ea
      refine wp_region_any (by kernel_rfl) ?_
      refine wpAny_take (i := 0) (v := .pointer (some ⟨w.heap.size + 1, 1, none⟩)) rfl (by kernel_rfl) (by kernel_rfl) (by kernel_rfl) (fun _ _ _ h => h) (.inl ⟨rfl, fun _ => rfl⟩) ?_
      refine wpAny_pickE (C := fun w' => ∃ s : Lat W1, w' = s.world) (v := .slice ao' k c') 21 [0] [2, 3, 4, 5, 6, 7, 8, 9, 10, 11, 12, 13, 14, 15, 16, 17, 18, 19, 20] 21 [22, 23, 24] 1 (by kernel_rfl) (by kernel_rfl) (by kernel_rfl) (by kernel_rfl) ⟨⟨W1.drew, (Below.refl _ _).drew⟩, rfl⟩ rfl rfl (fun _ _ _ h => h) (.inl ⟨rfl, ?_⟩) ?_
      · rintro _ ⟨s, rfl⟩
        have p6s := p6 s
        clear p0 p1 p2 p6 g0 g1 g2
        go_simp
      simp only [List.filterMap_cons, List.filterMap_nil, List.getElem?_cons_zero, List.getElem?_cons_succ, List.getElem_toArray, List.getElem_cons_succ, List.getElem_cons_zero, Act.put, List.setIfInBounds_toArray, List.set_cons_zero, List.set_cons_succ]
      repeat (quiet_step ((go_at_call 93; exact Lat.callS (HBX.out _ _ (by first | exact K0.out | exact K1.out | exact K2.out)))))
      refine wpQuiet_nil ?_
      rintro _ ⟨s, rfl⟩
      have T2 := T1'.out.later s.below
      have sb := s.below
      clear p0 p1 p2 p6 g0 g1 g2
      refine wpOp_step rfl ?_
      intro K hK
      go_simp
      refine hK _ _ ⟨⟨⟨_, sb.alloc sb.size _⟩, rfl⟩, ?_⟩
      try simp only [List.filterMap_cons, List.filterMap_nil, List.getElem?_cons_zero, List.getElem?_cons_succ]
      generalize s.world = Ws at *
      refine app_R (.tmp 32) (.tmp 52) Ws (w.heap.size + 1 + 1) (.slice ao' k c') rs _ _ _ (by rfl) (by rfl) (by rfl) (by rfl) T2.own (by omega) T2.size ?_
      intro v3 w3 o3 q3
      have ee := cell_only q3 T2.q1 T2.n2
      have ef := fun j => (frozen_only q3 (p := ⟨w.heap.size + 1, j, none⟩) (by have := T2.size; simp; omega) T2.n2).trans (T2.qf j)
      have t3 := T2.only q3 o3
      obtain ⟨a3, p3, hv3⟩ := own_shape o3
      rw [List.length_append, hlk] at hv3
      subst hv3
      have T3 := Lib.hid t3; clear t3
      have O3 := Lib.hid o3; clear o3
      clear q3 T2 sb
      go_wp2
      go_roundw
      case rel => exact ⟨k + 1, _, _, by omega, by go_num, by rw [← HS.out]; exact T3.out⟩
      case measure => simp [intOf]; omega
    · obtain rfl : k = n := by omega
      have R := HR.out
      have r0 := R.r0
      have r1 := R.r1
      have rf := R.rf
      have q0 := R.q0
      have q1 := R.q1
      have o5 := R.own
      have lo5 := own_lo o5
      have O5 := Lib.hid o5; clear o5
      clear hcell R
      go_wp2
      refine bodyPost_ret (v := .agg #[.string nm, .slice ao' k c']) (by simp [results, Try.results38, go_sem, r0, r1]) rfl ?_
      have o11 := own_set O5.out (a := ⟨w.heap.size, 0, none⟩) (fun k hk => by have := lo5 k hk; simp; omega) (.string nm)
      have o12 := own_set o11 (a := ⟨w.heap.size, 1, none⟩) (fun k hk => by have := lo5 k hk; simp; omega) (.slice ao' k c')
      exact ⟨_, rfl, own_base o12 (by omega), (br.setCell (by simp) _).setCell (by simp) _⟩
theorem l07Sized_c (g : Nat) (nm : ByteArray) (sv : Value) (ps : List (Int × Int × Int)) (num den : Int) (w : World) (hg : g < w.heap.size) (c0 : w.cell? ⟨g, 0, none⟩ = some (.string nm)) (c1 : w.cell? ⟨g, 1, none⟩ = some sv) (hr : Rd w sv ps.length (trips ps)) (hal : ps.all ringT = true) (hl : ps.length ≤ 32)
    (n1 : 1 ≤ num) (n2 : num ≤ 20000000) (n3 : 1 ≤ den) (n4 : den ≤ 20000000) :
    Calls Try.prog 38 #[.pointer (some ⟨g, 0, none⟩), .int .i64 num, .int .i64 den] w (RetOwnP nm (mapK (scT num den) ps ps.length) w) :=
  l07SizedO_c g 0 nm sv ps num den w hg c0 c1 hr hal hl n1 n2 n3 n4

end Go.Proofs.Ytmeeibcbhjifbaa
