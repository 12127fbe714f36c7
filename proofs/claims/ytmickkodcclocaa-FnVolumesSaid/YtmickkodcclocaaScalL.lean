/- Scaling: the plain laws. -/
import Derived.Test.YtmickkodcclocaaFamI
namespace Go.Proofs.Ytmickkodcclocaa
set_option linter.unusedVariables false
open Go.RowKit Go.Proofs.Bell Go.BigFrame

theorem rnd_mul {x f : Int} (h0 : 0 ≤ x) (h1 : 1 ≤ f) : rnd (x * f) f = x := by
  have hx : 0 ≤ x * f := Int.mul_nonneg h0 (by omega)
  unfold rnd
  rw [if_neg (by omega), show 2 * (x * f) + f = f + x * (2 * f) by rw [Int.mul_left_comm]; omega, Int.add_mul_ediv_right _ _ (by omega), Int.ediv_eq_zero_of_lt (by omega) (by omega)]
  omega
theorem sc_same {nm : ByteArray} {ps : List (Int × Int × Int)} {f : Int} (hp : profB nm ps = true) (h1 : 1 ≤ f) : mapK (scT f f) ps ps.length = ps := mapK_id fun k hk => by
  have := ringT_t (((profB_iff nm ps).1 hp).2.2.2.1 k hk)
  simp only [scT]
  rw [rnd_mul (by omega) h1, rnd_mul (by omega) h1, rnd_mul (by omega) h1]
theorem pitch_same {nm : ByteArray} {ps : List (Int × Int × Int)} {f : Int} (hp : profB nm ps = true) (h1 : 10000 ≤ f) (h2 : f ≤ 20000000) : pitchPI nm ps f f = (nm, ps, 0) := by
  have : freqB f = true := inB_mk ⟨h1, h2⟩
  simp [pitchPI, hp, this, sc_same hp (show 1 ≤ f by omega), doneR_t hp]
theorem scale_same {nm : ByteArray} {ps : List (Int × Int × Int)} {f : Int} (hp : profB nm ps = true) (h1 : 1 ≤ f) (h2 : f ≤ 1000) : scaleI nm ps f f = (nm, ps, 0) := by
  have : sclB f = true := inB_mk ⟨h1, h2⟩
  simp [scaleI, scl2B, hp, this, sc_same hp h1, doneR_t hp]
theorem scale_fam {nm : ByteArray} {ps : List (Int × Int × Int)} {n : Int} (hp : profB nm ps = true) (h1 : 1 ≤ n) (h2 : n ≤ 1000) : scaleI nm ps n 100 = doneR nm (famR n 100 ps 1) := by
  have a : sclB n = true := inB_mk ⟨h1, h2⟩
  have b : sclB 100 = true := rfl
  simp [scaleI, scl2B, hp, a, b, famR]
theorem pitch_up {f n : Int} (h1 : 100000 ≤ f) (h2 : f ≤ 1299980) (h3 : 60 ≤ n) (h4 : n ≤ 99) : pitchI f n 100 = (rnd (f * 100) n, 0) ∧ f ≤ rnd (f * 100) n ∧ rnd (f * 100) n ≤ 20000000 := by
  have key : f ≤ rnd (f * 100) n ∧ rnd (f * 100) n ≤ 20000000 := by
    unfold rnd
    rw [if_neg (by omega)]
    constructor
    · refine (Int.le_ediv_iff_mul_le (by omega)).2 ?_
      have : f * n ≤ f * 99 := Int.mul_le_mul_of_nonneg_left h4 (by omega)
      have e : f * (2 * n) = 2 * (f * n) := Int.mul_left_comm _ _ _
      omega
    · refine Int.lt_add_one_iff.mp (Int.ediv_lt_of_lt_mul (by omega) ?_)
      omega
  refine ⟨?_, key⟩
  have a : freqB f = true := inB_mk (by omega)
  have b : sclB n = true := inB_mk (by omega)
  have c : freqB (rnd (f * 100) n) = true := inB_mk (by omega)
  have d : sclB 100 = true := rfl
  simp [pitchI, a, b, c, d]
theorem heightI_app (xs ys : List (Int × Int × Int)) : heightI (xs ++ ys) = heightI xs + heightI ys := by simp [heightI]
theorem mapK_hle {T : Nat → Int × Int × Int → Int × Int × Int} {ps : List (Int × Int × Int)} : ∀ n, n ≤ ps.length → (∀ k, k < n → (T k (rg ps k)).2.2 ≤ (rg ps k).2.2) → heightI (mapK T ps n) ≤ heightI (ps.take n)
  | 0, _, _ => by simp [mapK, heightI]
  | n + 1, hn, h => by
    have ih := mapK_hle n (by omega) (fun k hk => h k (by omega))
    have h1 := h n (by omega)
    rw [mapK, heightI_app, List.take_succ_eq_append_getElem (by omega), heightI_app, ← rg_eq (by omega)]
    have e : ∀ x : Int × Int × Int, heightI [x] = x.2.2 := fun x => by simp [heightI]
    rw [e, e]
    omega
theorem small_h {nm : ByteArray} {ps : List (Int × Int × Int)} {n : Int} (hp : profB nm ps = true) (h1 : 1 ≤ n) (h2 : n ≤ 100) : heightI (famR n 100 ps 1) ≤ heightI ps := by
  have := mapK_hle (T := scT n 100) (ps := ps) ps.length (Nat.le_refl _) (fun k hk => by
    have r := ringT_t (((profB_iff nm ps).1 hp).2.2.2.1 k hk)
    have a : (rg ps k).2.2 * n ≤ (rg ps k).2.2 * 100 := Int.mul_le_mul_of_nonneg_left h2 (by omega)
    have b : 0 ≤ (rg ps k).2.2 * n := Int.mul_nonneg (by omega) (by omega)
    simp only [scT, rnd]
    rw [if_neg (by omega)]
    omega)
  rwa [List.take_of_length_le (Nat.le_refl _)] at this
theorem fam3 {nm : ByteArray} {ps : List (Int × Int × Int)} {n : Int} (hp : profB nm ps = true) : famOk nm n 100 ps 3 = (profB nm (famR n 100 ps 1) && profB nm (famR n 100 ps 2)) := by
  have : profB nm (famR n 100 ps 0) = true := hp
  simp [famOk, List.range, List.range.loop, this]

set_option maxHeartbeats 800000 in
theorem specHeight_c (nm : ByteArray) (v : Value) (ps : List (Int × Int × Int)) (w : World) (hnm : nm.size ≤ maxLen) (h : Rd w v ps.length (trips ps)) (hp : profB nm ps = true) : Calls Try.prog 53 #[.agg #[.string nm, v]] w (RetB (.tuple #[.int .i64 (heightI ps), .int .i64 0]) w) := by
  have hok := fun w' g hg c0 c1 (hb : Below w.heap.size w w') => l05Ok_c g nm v ps w' hg hnm c0 c1 (h.later hb)
  rw [hp] at hok
  have hhe := fun w' g c1 (hb : Below w.heap.size w w') => l05Height_c g nm v ps w' c1 (h.later hb) (profB_t hp).2.2.1 (profB_t hp).2.1
  have HOK := Lib.hid hok; clear hok
  have HHE := Lib.hid hhe; clear hhe
  obtain ⟨_, ao, cap, _, _, rfl, _, _⟩ := h.open
  clear h hp
  go_enter Try.func53, Try.ntmps53
  have b0 : Below w.heap.size w w := Below.refl _ _
  have z0 : w.heap.size ≤ w.heap.size := Nat.le_refl _
  go_wp2_with fail
  refine (HOK.out _ _ (by simp) (by simp [go_sem]) (by simp [go_sem]) (by go_grown)).mono ?_
  rintro _ w1 ⟨rfl, d1⟩
  have r1 := Dr.below d1; clear d1
  have s1 : Below w.heap.size w w1 := Below.trans (by go_grown) (r1.mono (by simp; try omega))
  have b1 := b0.trans (s1.mono z0)
  have z1 := b1.size
  have y1 := s1.size
  have c0_0_1 := below_cell r1 (p := ⟨w.heap.size, 0, none⟩) (v := .string nm) (by simp [go_sem])
  have c0_1_1 := below_cell r1 (p := ⟨w.heap.size, 1, none⟩) (v := .slice ao ps.length cap) (by simp [go_sem])
  clear r1
  go_wp2_with fail
  refine (HHE.out _ _ c0_1_1 b1).mono ?_
  rintro _ _ ⟨rfl, rfl⟩
  go_wp2
  go_returns
  exact RetB.mk rfl b1

end Go.Proofs.Ytmickkodcclocaa
