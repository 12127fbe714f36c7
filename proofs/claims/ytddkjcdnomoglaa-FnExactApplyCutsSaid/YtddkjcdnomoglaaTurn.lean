/- A profile, turned on the lathe. -/
import Derived.Test.YtddkjcdnomoglaaPut
import Derived.Test.YtddkjcdnomoglaaValidZ
import Derived.Test.YtddkjcdnomoglaaTail
namespace Go.Proofs.Ytddkjcdnomoglaa
set_option linter.unusedVariables false
open Go.RowKit Go.Proofs.Bell Go.BigFrame

def turnT (zs sums : List Int) (k : Nat) (r : Int × Int × Int) : Int × Int × Int := (r.1, r.2.1 + 10 * sums.getD (zoneI zs k) 0, r.2.2)

set_option maxRecDepth 100000 in
set_option maxHeartbeats 1600000 in
theorem l09Turned_c (g : Nat) (nm : ByteArray) (sv : Value) (ps : List (Int × Int × Int)) (v : Value) (zs : List Int) (u : Value) (sums : List Int) (w : World) (c0 : w.cell? ⟨g, 0, none⟩ = some (.string nm)) (c1 : w.cell? ⟨g, 1, none⟩ = some sv) (hr : Rd w sv ps.length (trips ps)) (h : Rd w v zs.length (ints zs)) (h2 : Rd w u sums.length (ints sums))
    (hl1 : 1 ≤ ps.length) (hl2 : ps.length ≤ 32) (hal : ps.all ringT = true) (hzi : ∀ k, k < ps.length → zoneI zs k < sums.length) (hsb : ∀ k, 0 ≤ sums.getD k 0 ∧ sums.getD k 0 ≤ 1000000000000) :
    Calls Try.prog 97 #[.pointer (some ⟨g, 0, none⟩), v, u] w (RetOwnP nm (mapK (turnT zs sums) ps ps.length) w) := by
  have hown := fun w' (hb : Below w.heap.size w w') => l05Own_c g nm sv ps w' (below_cell hb c0) (below_cell hb c1) (hr.later hb) hl1 (by omega)
  have hz := fun w' (k : Nat) (hb : Below w.heap.size w w') => l09Zone_c v zs k w' (h.later hb)
  clear c0 c1 hr
  obtain ⟨hnq, aoq, capq, bq, offq, rfl, haoq, hcellq⟩ := h.open
  clear hcellq haoq h
  have HOWN := Lib.hid hown; clear hown
  have HZ := Lib.hid hz; clear hz
  have HAL := Lib.hid hal; clear hal
  have HZI := Lib.hid hzi; clear hzi
  have HSB := Lib.hid hsb; clear hsb
  generalize hns : sums.length = ns at *
  have HNS := Lib.hid hns; clear hns
  obtain ⟨hnn, aos, caps, bs, offs, rfl, haos, hcells⟩ := h2.open
  clear h2
  go_enter Try.func97, Try.ntmps97
  have b0 : Below w.heap.size w w := Below.refl _ _
  have z0 : w.heap.size ≤ w.heap.size := Nat.le_refl _
  go_wp2_with fail
  refine (HOWN.out _ (by go_grown)).mono ?_
  rintro _ w1 ⟨x1, rfl, n1, r1⟩
  have s1 : Below w.heap.size w w1 := Below.trans (by go_grown) (r1.mono (by simp; try omega))
  have b1 := b0.trans (s1.mono z0)
  have z1 := b1.size
  have y1 := s1.size
  have v1 : w.heap.size + 1 ≤ w1.heap.size := by have := r1.size; simp only [World.size_alloc] at this; omega
  have c0_0_1 := below_cell r1 (p := ⟨w.heap.size, 0, none⟩) (v := .string ⟨#[]⟩) (by simp [go_sem])
  have c0_1_1 := below_cell r1 (p := ⟨w.heap.size, 1, none⟩) (v := .slice none 0 0) (by simp [go_sem])
  have f0_1 : ∀ j, w1.frozen? ⟨w.heap.size, j, none⟩ = false := fun j => (r1.frozen (p := ⟨w.heap.size, j, none⟩) (by simp [go_sem])).trans (by simp [go_sem])
  clear r1
  obtain ⟨g2, cap2, rfl, hg2, hg3⟩ := World.ownsRow.form n1 hl1
  have O2 := Lib.hid n1; clear n1
  have zz := v1
  have hI : InPl w.heap.size w1.heap.size nm (.slice (some ⟨g2, 0, none⟩) ps.length cap2) ps w (w1.alloc (.cells #[.string nm, .slice (some ⟨g2, 0, none⟩) ps.length cap2] 31)) :=
    ⟨b1.alloc z1 _, Nat.le_refl _, alloc_cell _ c0_0_1, alloc_cell _ c0_1_1, fun j => (alloc_frozen _ (show w.heap.size < _ from World.block_lt_of_cell? _ ⟨w.heap.size, 0, none⟩ c0_0_1)).trans (f0_1 j), by simp [go_sem], by simp [go_sem], own_base (own_later O2.out ((Below.refl _ _).alloc (Nat.le_refl _) _)) (by simp at *; try omega), fun k hk => by simp [Value.ownBlock] at hk; simp at hg2; omega⟩
  have HI := Lib.hid hI; clear hI
  go_wp2_with fail
  go_loopw [8] (fun i wr => ∃ (k : Nat), k ≤ ps.length ∧ i = .int .i64 k ∧ InPl w.heap.size w1.heap.size nm (.slice (some ⟨g2, 0, none⟩) ps.length cap2) (mixK (turnT zs sums) ps k) w wr) (fun i _ => ps.length - (intOf i).toNat)
  case atStart => exact ⟨0, Nat.zero_le _, rfl, by rw [mix_zero]; exact HI.out⟩
  case round =>
    obtain ⟨k, hk, rfl, hI⟩ := hrel
    have hln := mix_len (turnT zs sums) hk
    have hq0 := hI.q0
    have hq1 := hI.q1
    have br := hI.below
    by_cases hlt : k < ps.length
    · obtain ⟨p0, p1, p2⟩ := hI.cells hln.symm hlt
      have fz := hI.frozen hln.symm
      have hring := ringT_t (all_at HAL.out hlt)
      rw [mix_at (turnT zs sums) (Nat.le_refl k) hlt] at p0 p1 p2
      have hput := fun m => (hI.later (below_drewN (Below.refl _ _) m)).put hln.symm (k * 3 + 1) (.int .i64 ((rg ps k).2.1 + 10 * sums.getD (zoneI zs k) 0)) (qs' := mixK (turnT zs sums) ps (k + 1)) (by rw [hln, mix_len (turnT zs sums) hlt]) (by
        rw [trips_put1 _ _ _ (by rw [hln]; exact hlt), mix_at (turnT zs sums) (Nat.le_refl k) hlt]; exact congrArg trips (mix_set (turnT zs sums) hlt))
      have hix := ix (P := Try.prog) (T := 29) (cap := cap2) Try.underlying29 cells_Ring has_Ring (ao := some ⟨g2, 0, none⟩) (b := g2) (off := 0) (fun _ => rfl) (k := k) hlt _ rfl
      rw [Nat.zero_add] at hix
      have hzk := HZI.out k hlt
      have hss := HSB.out (zoneI zs k)
      have hZ := fun m => HZ.out (wr.drewN m) k (below_drewN br m)
      generalize zoneI zs k = zk at *
      have hzl : zk < sums.length := by rw [HNS.out]; exact hzk
      have hixs := ix (P := Try.prog) (T := 25) (cap := caps) Try.underlying25 cells_int64 has_int64 haos (k := zk) hzk _ rfl
      rw [Nat.mul_one] at hixs
      have hs1 : wr.cell? ⟨bs, offs + zk, none⟩ = some (.int .i64 (sums.getD zk 0)) := by rw [getD_eq hzl]; exact hcells _ br _ _ (by omega) (intsAt hzl)
      have HP := Lib.hid hput; clear hput
      have HZK := Lib.hid hZ; clear hZ
      clear hI hcells
      generalize (rg ps k).2.1 = x0 at *
      generalize sums.getD zk 0 = s0 at *
      go_wp2_with fail
      refine wp_region_drew_tail 16 (by kernel_rfl) (by kernel_rfl) ?_
      simp only [List.take_succ_cons, List.take_zero, List.drop_succ_cons, List.drop_zero]
      repeat (quiet_step ((go_at_call 141; exact quietS (HZK.out _))))
      refine wpQuiet_nil ?_
      rintro _ ⟨nq, rfl⟩
      go_wp2
      go_roundw
      case rel => exact ⟨k + 1, by omega, by go_num, HP.out nq⟩
      case measure => simp [intOf]; omega
    · obtain rfl : k = ps.length := by omega
      have r0 := hI.r0
      have r1 := hI.r1
      have rf := hI.rf
      have o5 := hI.own
      rw [mix_end] at o5
      have lo5 := own_lo o5
      have O5 := Lib.hid o5; clear o5
      clear hI hcells hln
      have hln2 := mapK_len (turnT zs sums) ps ps.length
      go_wp2
      refine bodyPost_ret (v := .agg #[.string nm, .slice (some ⟨g2, 0, none⟩) ps.length cap2]) (by simp [results, Try.results97, go_sem, r0, r1]) rfl ?_
      have o11 := own_set O5.out (a := ⟨w.heap.size, 0, none⟩) (fun k hk => by have := lo5 k hk; simp; omega) (.string nm)
      have o12 := own_set o11 (a := ⟨w.heap.size, 1, none⟩) (fun k hk => by have := lo5 k hk; simp; omega) (.slice (some ⟨g2, 0, none⟩) ps.length cap2)
      exact ⟨_, rfl, own_base o12 (by omega), (br.setCell (by simp) _).setCell (by simp) _⟩

end Go.Proofs.Ytddkjcdnomoglaa
