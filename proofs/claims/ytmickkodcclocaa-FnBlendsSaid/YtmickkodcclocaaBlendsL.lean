/- Blending, thickening, smoothing: the plain laws. -/
import Derived.Test.YtmickkodcclocaaBlend
import Derived.Test.YtmickkodcclocaaGst
import Derived.Test.YtmickkodcclocaaSmooth
import Derived.Test.YtmickkodcclocaaThick
namespace Go.Proofs.Ytmickkodcclocaa
set_option linter.unusedVariables false
open Go.RowKit Go.Proofs.Bell Go.BigFrame

theorem rg_ext {xs ys : List (Int × Int × Int)} (h : xs.length = ys.length) (hk : ∀ k, k < ys.length → rg xs k = rg ys k) : xs = ys := by
  refine List.ext_getElem h fun k h1 h2 => ?_
  have := hk k h2
  rwa [rg_eq h1, rg_eq h2] at this
theorem rg_snoc {rs : List (Int × Int × Int)} (x : Int × Int × Int) {k : Nat} (h : k < rs.length) : rg (rs ++ [x]) k = rg rs k := by simp [rg, List.getD, List.getElem?_append_left h]
theorem rg_end (rs : List (Int × Int × Int)) (x : Int × Int × Int) : rg (rs ++ [x]) rs.length = x := by simp [rg, List.getD]
theorem mapK_rg (T : Nat → Int × Int × Int → Int × Int × Int) (ps : List (Int × Int × Int)) : ∀ n k, k < n → rg (mapK T ps n) k = T k (rg ps k)
  | 0, k, h => by omega
  | n + 1, k, h => by
    rw [mapK]
    have hl := mapK_len T ps n
    rcases Nat.lt_or_ge k n with h1 | h1
    · rw [rg_snoc _ (by omega)]; exact mapK_rg T ps n k h1
    · obtain rfl : k = n := by omega
      have := rg_end (mapK T ps k) (T k (rg ps k))
      rwa [hl] at this
theorem mapK_id {T : Nat → Int × Int × Int → Int × Int × Int} {ps : List (Int × Int × Int)} (h : ∀ k, k < ps.length → T k (rg ps k) = rg ps k) : mapK T ps ps.length = ps :=
  rg_ext (mapK_len _ _ _) fun k hk => by rw [mapK_rg _ _ _ _ hk, h k hk]
theorem mapK_h {T : Nat → Int × Int × Int → Int × Int × Int} {ps : List (Int × Int × Int)} (h : ∀ k, k < ps.length → (T k (rg ps k)).2.2 = (rg ps k).2.2) : heightI (mapK T ps ps.length) = heightI ps := by
  unfold heightI
  congr 1
  have hl := mapK_len T ps ps.length
  refine List.ext_getElem (by simp [hl]) fun k h1 h2 => ?_
  simp only [List.length_map] at h1 h2
  rw [List.getElem_map, List.getElem_map, ← rg_eq h1, ← rg_eq h2, mapK_rg _ _ _ _ h2, h k h2]
theorem profB_iff (nm : ByteArray) (rs : List (Int × Int × Int)) : profB nm rs = true ↔ nameB nm = true ∧ 1 ≤ rs.length ∧ rs.length ≤ 32 ∧ (∀ k, k < rs.length → ringT (rg rs k) = true) ∧ (∀ k, k < rs.length → joinAt rs k = true) ∧ heightI rs ≤ 300000 := by
  unfold profB
  rw [← all_rg rs ringT]
  simp only [Bool.and_eq_true, decide_eq_true_eq, List.all_eq_true, List.mem_range]
  constructor
  · rintro ⟨⟨⟨⟨⟨a, b⟩, c⟩, d⟩, e⟩, f⟩; exact ⟨a, b, c, d, e, f⟩
  · rintro ⟨a, b, c, d, e, f⟩; exact ⟨⟨⟨⟨⟨a, b⟩, c⟩, d⟩, e⟩, f⟩

def thK (d : Int) (ps : List (Int × Int × Int)) : List (Int × Int × Int) := mapK (thickT d) ps ps.length
theorem thK_len (d : Int) (ps : List (Int × Int × Int)) : (thK d ps).length = ps.length := mapK_len _ _ _
theorem thK_rg (d : Int) {ps : List (Int × Int × Int)} {k : Nat} (h : k < ps.length) : rg (thK d ps) k = ((rg ps k).1 + d, (rg ps k).2.1, (rg ps k).2.2) := mapK_rg _ _ _ _ h
theorem thickI_ok {nm : ByteArray} {ps : List (Int × Int × Int)} {d : Int} (hp : profB nm ps = true) (h1 : -150000 ≤ d) (h2 : d ≤ 150000) : thickI nm ps d = doneR nm (thK d ps) := by
  simp [thickI, hp, inB_mk (show -150000 ≤ d ∧ d ≤ 150000 from ⟨h1, h2⟩), thK]
theorem thK_back (d : Int) (ps : List (Int × Int × Int)) : thK (-d) (thK d ps) = ps :=
  rg_ext (by rw [thK_len, thK_len]) fun k hk => by
    rw [thK_rg _ (by rw [thK_len]; exact hk), thK_rg _ hk]
    ext <;> simp <;> omega
theorem thick_back {nm : ByteArray} {ps : List (Int × Int × Int)} {d : Int} (hp : profB nm ps = true) (hq : profB nm (thK d ps) = true) (h1 : -150000 ≤ d) (h2 : d ≤ 150000) : thickI nm (thK d ps) (-d) = (nm, ps, 0) := by
  rw [thickI_ok hq (by omega) (by omega), thK_back, doneR_t hp]

theorem rnd_zero (b : Int) (hb : 1 ≤ b) : rnd 0 b = 0 := by
  unfold rnd
  rw [if_neg (by omega)]
  exact Int.ediv_eq_zero_of_lt (by omega) (by omega)
theorem rnd_1000 (m : Int) : rnd (m * 1000) 1000 = m := by
  unfold rnd
  split <;> omega
theorem rnd_share {d s : Int} (h0 : 0 ≤ d) (s0 : 0 ≤ s) (s1 : s ≤ 1000) : 0 ≤ rnd (d * s) 1000 ∧ rnd (d * s) 1000 ≤ d := by
  have h1 : 0 ≤ d * s := Int.mul_nonneg h0 s0
  have h2 : d * s ≤ d * 1000 := Int.mul_le_mul_of_nonneg_left s1 h0
  unfold rnd
  rw [if_neg (by omega)]
  omega

theorem blend_c {nm : ByteArray} {ps : List (Int × Int × Int)} {d s : Int} (s0 : 0 ≤ s) (s1 : s ≤ 1000) (hp : profB nm ps = true) (hq : profB nm (thK d ps) = true) : blendI nm ps nm (thK d ps) s = doneR nm (thK (rnd (d * s) 1000) ps) := by
  have e : mapK (blT s (thK d ps)) ps ps.length = thK (rnd (d * s) 1000) ps := by
    refine rg_ext (by rw [thK_len]; exact mapK_len _ _ _) fun k hk => ?_
    rw [thK_len] at hk
    rw [mapK_rg _ _ _ _ hk, thK_rg _ hk]
    simp only [blT, btw, thK_rg d hk]
    have e1 : (rg ps k).1 + d - (rg ps k).1 = d := by omega
    have e2 : ∀ x : Int, (x - x) * s = 0 := fun x => by rw [Int.sub_self, Int.zero_mul]
    rw [e1, e2, e2, rnd_zero _ (by omega), Int.add_zero, Int.add_zero]
  unfold blendI
  rw [hp, hq, inB_mk ⟨s0, s1⟩, e, if_pos (thK_len d ps).symm]
  simp
theorem thK_zero (ps : List (Int × Int × Int)) : thK 0 ps = ps := mapK_id fun k _ => by simp [thickT]
theorem thK_mid {nm : ByteArray} {ps : List (Int × Int × Int)} {c d : Int} (h0 : 0 ≤ c) (h1 : c ≤ d) (hp : profB nm ps = true) (hq : profB nm (thK d ps) = true) : profB nm (thK c ps) = true := by
  rw [profB_iff] at hp hq ⊢
  obtain ⟨a1, a2, a3, a4, a5, a6⟩ := hp
  obtain ⟨b1, b2, b3, b4, b5, b6⟩ := hq
  have hh : ∀ d, heightI (thK d ps) = heightI ps := fun d => mapK_h fun k _ => rfl
  rw [thK_len] at b4 ⊢
  refine ⟨a1, a2, a3, fun k hk => ?_, fun k hk => ?_, by rw [hh]; exact a6⟩
  · have h2 := ringT_t (a4 k hk)
    have h3 := ringT_t (b4 k hk)
    rw [thK_rg _ hk] at h3 ⊢
    simp only at h3
    unfold ringT ringB
    simp only
    rw [inB_mk (by omega), inB_mk (by omega), inB_mk (by omega)]
    rfl
  · have h2 := a5 k hk
    unfold joinAt at h2 ⊢
    rcases Nat.eq_zero_or_pos k with rfl | e
    · rfl
    · rw [thK_rg _ hk, thK_rg _ (by omega)]
      have e0 : (k == 0) = false := by simp; omega
      rw [e0] at h2 ⊢
      simp only [Bool.false_or, joinB, Bool.and_eq_true, decide_eq_true_eq] at h2 ⊢
      omega

theorem gst_le {rs : List (Int × Int × Int)} {G : Int} (hG : 0 ≤ G) : ∀ n, (∀ k, 1 ≤ k → k < n → gstep rs k ≤ G) → gstK rs n ≤ G
  | 0, _ => hG
  | n + 1, h => by
    rw [gstK]
    split
    · exact hG
    · have h1 := gst_le hG n (fun k hk hk2 => h k hk (by omega))
      have h2 := h n (by omega) (by omega)
      omega
theorem gst_ge {rs : List (Int × Int × Int)} : ∀ n, 0 ≤ gstK rs n ∧ ∀ k, 1 ≤ k → k < n → gstep rs k ≤ gstK rs n
  | 0 => ⟨by simp [gstK], fun k _ h => by omega⟩
  | n + 1 => by
    obtain ⟨h1, h2⟩ := gst_ge (rs := rs) n
    rw [gstK]
    split
    · exact ⟨by omega, fun k _ h => by omega⟩
    · refine ⟨by omega, fun k hk hk2 => ?_⟩
      rcases Nat.lt_or_ge k n with h3 | h3
      · have := h2 k hk h3; omega
      · obtain rfl : k = n := by omega
        omega
theorem rnd4 (x : Int) : -2 ≤ 4 * rnd x 4 - x ∧ 4 * rnd x 4 - x ≤ 2 := by
  unfold rnd
  split <;> omega
theorem abs_le {x G : Int} (h : absI x ≤ G) : -G ≤ x ∧ x ≤ G := by
  unfold absI at h
  split at h <;> omega
theorem abs_mk {x G : Int} (h : -G ≤ x ∧ x ≤ G) : absI x ≤ G := by
  unfold absI
  split <;> omega
theorem smooth_step (ps : List (Int × Int × Int)) : gstK (mapK (smT ps) ps ps.length) ps.length ≤ gstK ps ps.length + 1 := by
  obtain ⟨hG, hk⟩ := gst_ge (rs := ps) ps.length
  refine gst_le (by omega) _ fun k h1 h2 => ?_
  have st := fun j (a : 1 ≤ j) (b : j < ps.length) => abs_le (hk j a b)
  unfold gstep
  apply abs_mk
  rw [mapK_rg _ _ _ _ h2, mapK_rg _ _ _ _ (by omega)]
  have s1 := st k h1 h2
  unfold smT
  generalize gstK ps ps.length = G at *
  by_cases c1 : k - 1 = 0
  · rw [if_pos (show k - 1 = 0 ∨ k - 1 + 1 = ps.length from .inl c1)]
    by_cases c2 : k + 1 = ps.length
    · rw [if_pos (show k = 0 ∨ k + 1 = ps.length from .inr c2)]; omega
    · rw [if_neg (by omega)]
      have s2 := st (k + 1) (by omega) (by omega)
      rw [show k + 1 - 1 = k by omega] at s2
      have r := rnd4 ((rg ps (k - 1)).1 + 2 * (rg ps k).1 + (rg ps (k + 1)).1)
      simp only
      omega
  · rw [if_neg (show ¬ (k - 1 = 0 ∨ k - 1 + 1 = ps.length) by omega)]
    have s0 := st (k - 1) (by omega) (by omega)
    have r1 := rnd4 ((rg ps (k - 1 - 1)).1 + 2 * (rg ps (k - 1)).1 + (rg ps (k - 1 + 1)).1)
    rw [show k - 1 + 1 = k by omega] at r1 ⊢
    by_cases c2 : k + 1 = ps.length
    · rw [if_pos (show k = 0 ∨ k + 1 = ps.length from .inr c2)]
      simp only
      omega
    · rw [if_neg (by omega)]
      have s2 := st (k + 1) (by omega) (by omega)
      rw [show k + 1 - 1 = k by omega] at s2
      have r := rnd4 ((rg ps (k - 1)).1 + 2 * (rg ps k).1 + (rg ps (k + 1)).1)
      simp only
      omega

end Go.Proofs.Ytmickkodcclocaa
