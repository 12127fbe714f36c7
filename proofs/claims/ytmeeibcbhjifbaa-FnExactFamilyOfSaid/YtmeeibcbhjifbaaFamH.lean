/- The laws' marks on lists of profiles, found again. -/
import Derived.Test.YtmeeibcbhjifbaaFamN
namespace Go.Proofs.Ytmeeibcbhjifbaa
set_option linter.unusedVariables false
open Go.RowKit Go.Proofs.Bell Go.BigFrame

set_option maxRecDepth 100000 in
set_option maxHeartbeats 3200000 in
theorem heldProfileS_c (v : Value) (ps : List PR) (k0 : Nat) (w : World) (h : RdPS w v (mkPS k0 ps)) (hk1 : k0 + SzPS ps ≤ 1000000) :
    Calls Try.prog 15 #[v, .int .i64 k0] w (RetB (.int .i64 ((k0 + stepP ps ps.length : Nat) : Int)) w) := by
  obtain ⟨us, hl, hr, hn, ho⟩ := h
  rw [mkPS_len] at hl hr hn ho
  have hn := fun k (hk : k < ps.length) => (hn k hk).trans (congrArg Prod.fst (mkPS_get k0 ps hk))
  have ho := fun k (hk : k < ps.length) => (mkPS_get k0 ps hk) ▸ ho k hk
  have hle := fun k (hk : k ≤ ps.length) => stepP_le ps hk
  have hst := fun k => (show stepP ps (k + 1) = stepP ps k + 1 + 3 * (ps.getD k nr).2.length from rfl)
  have hsz : ∀ k, k < ps.length → (ps.getD k nr).2.length ≤ 1000000 := fun k hk => by
    have h1 := stepP_le ps (show k + 1 ≤ ps.length from hk)
    rw [stepP] at h1
    unfold SzPS at hk1
    omega
  obtain ⟨hnn, ao, cap, bb, off, rfl, hao, hcell⟩ := hr.open
  have hhr : ∀ k, k < ps.length → ∀ w', Below w.heap.size w w' → Calls Try.prog 49 #[(us.getD k nd).2, .int .i64 (((k0 + stepP ps k : Nat) : Int) + 1)] w' (RetS (.int .i64 (((k0 + stepP ps k : Nat) : Int) + 1 + 3 * ((ps.getD k nr).2.length : Int))) w') := fun k hk w' hb => by
    have hk2 : (((k0 + stepP ps k : Nat) : Int) + 1) = ((k0 + stepP ps k + 1 : Nat) : Int) := by push_cast; rfl
    have h1 := (ho k hk).later hb
    simp only [mk3_len] at h1
    rw [hk2]
    have := hsz k hk
    have := hle k (by omega)
    unfold SzPS at hk1
    exact heldRingS_c _ _ _ w' h1 (by omega) (by omega)
  unfold SzPS at hk1
  generalize hnl : ps.length = n at *
  clear hr ho
  have HC := Lib.hid hcell; clear hcell
  have HN := Lib.hid hn; clear hn
  have HL := Lib.hid hl; clear hl
  have HLE := Lib.hid hle; clear hle
  have HST := Lib.hid hst; clear hst
  have HHR := Lib.hid hhr; clear hhr
  have HNL := Lib.hid hnl; clear hnl
  have HSZ := Lib.hid hsz; clear hsz
  go_enter Try.func15, Try.ntmps15
  go_wp2_with fail
  go_loopw [5, 1] (fun i q wr => ∃ (k : Nat), k ≤ n ∧ i = .int .i64 k ∧ q = .int .i64 ((k0 + stepP ps k : Nat) : Int) ∧ Below w.heap.size w wr) (fun i _ _ => n - (intOf i).toNat)
  case atStart => exact ⟨0, Nat.zero_le _, rfl, by simp [stepP], Below.refl _ _⟩
  case round =>
    obtain ⟨k, hk, rfl, rfl, hb⟩ := hrel
    by_cases hlt : k < n
    · have hix := ix (P := Try.prog) (T := 26) (n := n) (cap := cap) Try.underlying26 cells_PS has_PS hao (k := k) hlt _ rfl
      have c0 := HC.out wr hb (k * 2) _ (by omega) (pcells_at (show k < us.length by rw [HL.out]; exact hlt)).1
      have c1 := HC.out wr hb (k * 2 + 1) _ (by omega) (pcells_at (show k < us.length by rw [HL.out]; exact hlt)).2
      rw [HN.out k hlt] at c0
      rw [← Nat.add_assoc] at c1
      have hq3 : ((k0 + stepP ps k : Nat) : Int) + 1 + 3 * ((ps.getD k nr).2.length : Int) = ((k0 + stepP ps (k + 1) : Nat) : Int) := by rw [HST.out]; push_cast; omega
      have hhk := fun w' hb => HHR.out k hlt w' hb
      rw [hq3] at hhk
      have h1 := HLE.out k (by omega)
      have h2 := HLE.out (k + 1) (by omega)
      have hmt := fun w' => markText_c (k0 + stepP ps k) w' (by omega)
      have hkb : k0 + stepP ps k ≤ 1000000 := by omega
      have hkb2 : k0 + stepP ps (k + 1) ≤ 1000000 := by omega
      have tneg : decide (((k0 + stepP ps (k + 1) : Nat) : Int) < 0) = false := decide_eq_false (by omega)
      generalize hK2 : k0 + stepP ps (k + 1) = K2 at *
      have HK2 := Lib.hid hK2; clear hK2
      generalize k0 + stepP ps k = K at *
      generalize (us.getD k nd).2 = uk at *
      clear hq3
      have HHK := Lib.hid hhk; clear hhk
      have e0 : ∀ s : Lat wr, s.world.cell? ⟨bb, off + k * 2, none⟩ = some (.string (mkText K)) := fun s => s.cell c0
      have hls : ∀ s : Lat wr, Calls Try.prog 48 #[.int .i64 K] s.world (RetB (.string (mkText K)) s.world) := fun s => hmt _
      have HLS := Lib.hid hls; clear hls
      clear hmt c0
      go_wp2_with fail
      refine wp_region_lat (by kernel_rfl) (by kernel_rfl) ?_
      repeat (go_big_quiet_step (first | (go_at_call 48; exact Lat.callB (HLS.out _))))
      refine wpQuiet_nil ?_
      rintro _ ⟨s, rfl⟩
      have b9 := hb.trans (s.below.mono hb.size)
      have e1 := s.cell c1
      have hhk := HHK.out _ b9
      clear e0 c1 HHK
      have HHK2 := Lib.hid hhk; clear hhk
      have hwz : IntKind.i64.wrap ((K : Int) + 1) = (K : Int) + 1 := IntWalk.i64_in _ (by omega)
      generalize s.world = w9 at *
      go_wp2_with fail
      refine HHK2.out.mono ?_
      rintro _ _ ⟨rfl, rfl⟩
      go_wp2
      go_roundw
      case rel => exact ⟨k + 1, by omega, by go_num, by rw [HK2.out], b9⟩
      case measure => simp [intOf]; omega
    · obtain rfl : k = n := by omega
      go_wp2
      go_returns
      exact RetB.mk rfl hb

end Go.Proofs.Ytmeeibcbhjifbaa
