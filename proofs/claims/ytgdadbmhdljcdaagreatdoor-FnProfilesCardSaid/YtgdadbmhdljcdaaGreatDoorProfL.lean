/- Rings divided, inserted and taken out again: the plain law of FnProfiles. -/
import Derived.Test.YtgdadbmhdljcdaaGreatDoorGD
import Derived.Test.YtgdadbmhdljcdaaGreatDoorGF
import Derived.Test.YtgdadbmhdljcdaaGreatDoorRgL
import Derived.Test.YtgdadbmhdljcdaaGreatDoorTD
import Derived.Test.YtgdadbmhdljcdaaGreatDoorUA
import Derived.Test.YtgdadbmhdljcdaaGreatDoorUC
import Derived.Test.YtgdadbmhdljcdaaGreatDoorUD
namespace Go.Proofs.YtgdadbmhdljcdaaGreatDoor
set_option linter.unusedVariables false
open Go.RowKit Go.Proofs.Bell Go.BigFrame

def chn : List (Int × Int × Int) → Prop
  | [] => True
  | [_] => True
  | x :: y :: r => joinB x y = true ∧ chn (y :: r)
theorem chn_app : ∀ (A : List (Int × Int × Int)) (x : Int × Int × Int) (B : List (Int × Int × Int)), chn (A ++ x :: B) ↔ chn (A ++ [x]) ∧ chn (x :: B)
  | [], x, B => by simp [chn]
  | [a], x, B => by simp [chn]
  | a :: b :: r, x, B => by
    have ih := chn_app (b :: r) x B
    simp only [List.cons_append, chn] at ih ⊢
    rw [ih, and_assoc]
/-- of a ring, what its neighbours look at -/
def sim (x y : Int × Int × Int) : Prop := x.1 = y.1 ∧ x.2.1 = y.2.1
theorem sim_join1 {x y z : Int × Int × Int} (h : sim x y) : joinB x z = joinB y z := by unfold joinB; rw [h.1, h.2]
theorem sim_join2 {x y z : Int × Int × Int} (h : sim x y) : joinB z x = joinB z y := by unfold joinB; rw [h.1, h.2]
theorem chn_sim1 {x y : Int × Int × Int} (h : sim x y) : ∀ B, chn (x :: B) ↔ chn (y :: B)
  | [] => by simp [chn]
  | b :: r => by simp only [chn]; rw [sim_join1 h]
theorem chn_sim2 {x y : Int × Int × Int} (h : sim x y) : ∀ A, chn (A ++ [x]) ↔ chn (A ++ [y])
  | [] => by simp [chn]
  | [a] => by simp only [List.cons_append, List.nil_append, chn]; rw [sim_join2 h]
  | a :: b :: r => by
    have ih := chn_sim2 h (b :: r)
    simp only [List.cons_append, chn] at ih ⊢
    rw [ih]
theorem chn_rg : ∀ (rs : List (Int × Int × Int)), chn rs ↔ ∀ k, k + 1 < rs.length → joinB (rg rs k) (rg rs (k + 1)) = true
  | [] => by simp [chn]
  | [a] => by simp [chn]
  | a :: b :: r => by
    have ih := chn_rg (b :: r)
    simp only [chn]
    rw [ih]
    constructor
    · rintro ⟨h1, h2⟩ k hk
      match k, hk with
      | 0, _ => exact h1
      | k + 1, hk => exact h2 k (by simpa using hk)
    · intro h
      exact ⟨h 0 (by simp), fun k hk => h (k + 1) (by simpa using hk)⟩
theorem join_chn (rs : List (Int × Int × Int)) : (∀ k, k < rs.length → joinAt rs k = true) ↔ chn rs := by
  rw [chn_rg]
  constructor
  · intro h k hk
    have := h (k + 1) hk
    simpa [joinAt] using this
  · intro h k hk
    rcases Nat.eq_zero_or_pos k with e | e
    · subst e; rfl
    · obtain ⟨j, rfl⟩ : ∃ j, k = j + 1 := ⟨k - 1, by omega⟩
      have := h j hk
      simpa [joinAt] using this
theorem prof_chn (nm : ByteArray) (rs : List (Int × Int × Int)) : profB nm rs = true ↔ nameB nm = true ∧ 1 ≤ rs.length ∧ rs.length ≤ 32 ∧ (∀ p ∈ rs, ringT p = true) ∧ chn rs ∧ heightI rs ≤ 300000 := by
  rw [profB_iff, join_chn]
  have : (∀ k, k < rs.length → ringT (rg rs k) = true) ↔ ∀ p ∈ rs, ringT p = true := by
    constructor
    · intro h p hp
      obtain ⟨j, hj, rfl⟩ := List.getElem_of_mem hp
      rw [← rg_eq hj]; exact h j hj
    · intro h k hk
      rw [rg_eq hk]; exact h _ (List.getElem_mem hk)
  rw [this]
theorem hI_app (a b : List (Int × Int × Int)) : heightI (a ++ b) = heightI a + heightI b := by simp [heightI]
theorem hI_cons (x : Int × Int × Int) (b : List (Int × Int × Int)) : heightI (x :: b) = x.2.2 + heightI b := by simp [heightI]
theorem parts {ps : List (Int × Int × Int)} {k : Nat} (h : k < ps.length) : ps = ps.take k ++ rg ps k :: ps.drop (k + 1) := by
  rw [rg_eq h, ← List.drop_eq_getElem_cons h, List.take_append_drop]
theorem ringT_with {x : Int × Int × Int} (h : ringT x = true) {c : Int} (h1 : 10 ≤ c) (h2 : c ≤ x.2.2) : ringT (x.1, x.2.1, c) = true := by
  have := ringT_t h
  simp only [ringT, ringB, Bool.and_eq_true]
  exact ⟨⟨inB_mk (by omega), inB_mk (by omega)⟩, inB_mk (by omega)⟩
theorem join_self {x y : Int × Int × Int} (h : ringT x = true) (s : sim x y) : joinB x y = true := by
  have := ringT_t h
  simp only [joinB, Bool.and_eq_true, decide_eq_true_eq]
  rw [← s.1, ← s.2]
  omega
theorem atK_spec {rs : List (Int × Int × Int)} {h : Int} (hl : 1 ≤ rs.length) (h1 : h < heightI rs) : atK rs h < rs.length ∧ h < heightI (rs.take (atK rs h + 1)) ∧ ∀ j, j < atK rs h → heightI (rs.take (j + 1)) ≤ h := by
  have hk := atK_lt hl h1
  refine ⟨hk, ?_, fun j hj => ?_⟩
  · have := List.findIdx_getElem (xs := List.range rs.length) (p := fun j => decide (h < heightI (rs.take (j + 1)))) (w := by rw [List.length_range]; exact hk)
    rw [List.getElem_range] at this
    exact of_decide_eq_true this
  · have := List.not_of_lt_findIdx (xs := List.range rs.length) (p := fun j => decide (h < heightI (rs.take (j + 1)))) (i := j) hj
    simp at this
    exact this
theorem atK_pre {rs : List (Int × Int × Int)} {h : Int} (hl : 1 ≤ rs.length) (h0 : 0 ≤ h) (h1 : h < heightI rs) : heightI (rs.take (atK rs h)) ≤ h := by
  obtain ⟨_, _, h4⟩ := atK_spec hl h1
  rcases Nat.eq_zero_or_pos (atK rs h) with e | e
  · rw [e]; simpa [heightI] using h0
  · have := h4 (atK rs h - 1) (by omega)
    rwa [show atK rs h - 1 + 1 = atK rs h by omega] at this
/-- a ring divided: valid, as high, and its wall is found behind the cut -/
theorem split_ok {nm : ByteArray} {ps : List (Int × Int × Int)} {h : Int} (hp : profB nm ps = true) (hl : ps.length ≤ 9) (h0 : 0 ≤ h) (h1 : h < heightI ps) (h10 : ¬ (h - heightI (ps.take (atK ps h)) < 10 ∨ (rg ps (atK ps h)).2.2 - (h - heightI (ps.take (atK ps h))) < 10)) :
    profB nm (sprL ps (atK ps h) (h - heightI (ps.take (atK ps h)))) = true ∧ heightI (sprL ps (atK ps h) (h - heightI (ps.take (atK ps h)))) = heightI ps ∧ atK (sprL ps (atK ps h) (h - heightI (ps.take (atK ps h)))) h = atK ps h + 1 ∧
      rg (sprL ps (atK ps h) (h - heightI (ps.take (atK ps h)))) (atK ps h + 1) = ((rg ps (atK ps h)).1, (rg ps (atK ps h)).2.1, (rg ps (atK ps h)).2.2 - (h - heightI (ps.take (atK ps h)))) := by
  obtain ⟨hn, hl1, hl2, hr, hc, hh⟩ := (prof_chn nm ps).1 hp
  obtain ⟨hk, hk1, hk2⟩ := atK_spec hl1 h1
  have hpre := atK_pre hl1 h0 h1
  generalize hK : atK ps h = k at *
  have hx := hr (rg ps k) (by rw [rg_eq hk]; exact List.getElem_mem hk)
  have hps := parts hk
  generalize hX : rg ps k = x at *
  have htk : heightI (ps.take (k + 1)) = heightI (ps.take k) + x.2.2 := by
    rw [List.take_succ_eq_append_getElem hk, hI_app, ← rg_eq hk, hX]; simp [heightI]
  obtain ⟨o, ho⟩ : ∃ o, o = h - heightI (ps.take k) := ⟨_, rfl⟩
  rw [← ho] at h10 ⊢
  have hlen : (sprL ps k o).length = ps.length + 1 := sprL_len hk o
  have hform : sprL ps k o = ps.take k ++ (x.1, x.2.1, o) :: (x.1, x.2.1, x.2.2 - o) :: ps.drop (k + 1) := by
    unfold sprL; rw [hX]; simp
  have hH : heightI (sprL ps k o) = heightI ps := by
    rw [hform]
    conv => rhs; rw [hps]
    simp only [hI_app, hI_cons]; omega
  have htl : (ps.take k).length = k := by rw [List.length_take]; omega
  refine ⟨?_, hH, ?_, ?_⟩
  · rw [prof_chn]
    refine ⟨hn, by omega, by omega, fun p hp' => ?_, ?_, by omega⟩
    · rw [hform] at hp'
      rcases List.mem_append.1 hp' with e | e
      · exact hr p (List.mem_of_mem_take e)
      · rcases List.mem_cons.1 e with e | e
        · rw [e]; exact ringT_with hx (by omega) (by omega)
        · rcases List.mem_cons.1 e with e | e
          · rw [e]; exact ringT_with hx (by omega) (by omega)
          · exact hr p (List.mem_of_mem_drop e)
    · rw [hps, chn_app] at hc
      rw [hform, chn_app]
      refine ⟨(chn_sim2 (x := (x.1, x.2.1, o)) (y := x) ⟨rfl, rfl⟩ _).2 hc.1, ?_⟩
      simp only [chn]
      exact ⟨join_self (ringT_with hx (c := o) (by omega) (by omega)) ⟨rfl, rfl⟩, (chn_sim1 (x := (x.1, x.2.1, x.2.2 - o)) (y := x) ⟨rfl, rfl⟩ _).2 hc.2⟩
  · have t1 : ∀ j, j ≤ k → (sprL ps k o).take j = ps.take j := fun j hj => by
      rw [hform, List.take_append_of_le_length (by omega), List.take_take, Nat.min_eq_left hj]
    have t2 : heightI ((sprL ps k o).take (k + 1)) = h := by
      rw [hform, List.take_append, htl, List.take_take, Nat.min_eq_right (by omega), show k + 1 - k = 1 by omega]
      simp [heightI] at ho ⊢; omega
    have t3 : heightI ((sprL ps k o).take (k + 1 + 1)) = heightI (ps.take k) + x.2.2 := by
      rw [hform, List.take_append, htl, List.take_take, Nat.min_eq_right (by omega), show k + 1 + 1 - k = 2 by omega]
      simp [heightI]; omega
    refine atK_eq (by omega) (List.all_eq_true.2 fun j hj => ?_) (by rw [t3]; omega)
    have hj' := List.mem_range.1 hj
    rcases Nat.lt_or_ge j k with e | e
    · rw [t1 (j + 1) (by omega)]; exact decide_eq_true (hk2 j e)
    · obtain rfl : j = k := by omega
      rw [t2]; exact decide_eq_true (Int.le_refl _)
  · rw [hform, rg, List.getD, List.getElem?_append_right (by omega), htl, show k + 1 - k = 1 by omega]
    rfl
/-- a ring beside its like: valid, and as before when it is taken out -/
theorem ins_ok {nm : ByteArray} {ps : List (Int × Int × Int)} {i : Nat} (hp : profB nm ps = true) (hl : ps.length ≤ 9) (hh : heightI ps ≤ 25000) (hi : i ≤ ps.length) (m : Nat) (hm : m = min i (ps.length - 1)) :
    insI nm ps (i : Int) (rg ps m).1 (rg ps m).2.1 (rg ps m).2.2 = (nm, insL ps i (rg ps m), 0) ∧ profB nm (insL ps i (rg ps m)) = true ∧ remI nm (insL ps i (rg ps m)) (i : Int) = (nm, ps, 0) := by
  obtain ⟨hn, hl1, hl2, hr, hc, hh3⟩ := (prof_chn nm ps).1 hp
  have hmk : m < ps.length := by omega
  have hx := hr (rg ps m) (by rw [rg_eq hmk]; exact List.getElem_mem hmk)
  have hps := parts hmk
  have ht := ringT_t hx
  have hform : insL ps i (rg ps m) = ps.take i ++ rg ps m :: ps.drop i := by unfold insL; rw [Int.toNat_natCast]
  have htl : (ps.take i).length = i := by rw [List.length_take]; omega
  have hlen : (insL ps i (rg ps m)).length = ps.length + 1 := by rw [hform]; simp; omega
  -- how the inserted list looks
  have hlook : insL ps i (rg ps m) = ps.take m ++ rg ps m :: rg ps m :: ps.drop (m + 1) := by
    rw [hform]
    rcases Nat.lt_or_ge i ps.length with e | e
    · obtain rfl : m = i := by omega
      rw [List.drop_eq_getElem_cons e, ← rg_eq e]
    · obtain rfl : i = ps.length := by omega
      have hm1 : m + 1 = ps.length := by omega
      have hps' : ps.take m ++ [rg ps m] = ps := by
        have := hps
        rw [hm1, List.drop_length] at this
        exact this.symm
      rw [List.take_length, List.drop_length, hm1, List.drop_length, show ps.take m ++ rg ps m :: [rg ps m] = (ps.take m ++ [rg ps m]) ++ [rg ps m] by simp, hps']
  have hprof : profB nm (insL ps i (rg ps m)) = true := by
    rw [prof_chn]
    have e1 : heightI ps = heightI (ps.take m) + ((rg ps m).2.2 + heightI (ps.drop (m + 1))) := by
      conv => lhs; rw [hps]
      simp only [hI_app, hI_cons]
    have hH : heightI (insL ps i (rg ps m)) = heightI ps + (rg ps m).2.2 := by
      rw [hlook]
      simp only [hI_app, hI_cons]; omega
    have hge : (rg ps m).2.2 ≤ heightI ps := by
      have pos : ∀ l : List (Int × Int × Int), (∀ p ∈ l, ringT p = true) → 0 ≤ heightI l := fun l => by
        induction l with
        | nil => intro _; simp [heightI]
        | cons a r ih =>
          intro h
          have h1 := ringT_t (h a (List.mem_cons_self ..))
          have h2 := ih (fun p hp => h p (List.mem_cons_of_mem _ hp))
          rw [hI_cons]; omega
      have a1 := pos _ (fun p hp => hr p (List.mem_of_mem_take hp) : ∀ p ∈ ps.take m, ringT p = true)
      have a2 := pos _ (fun p hp => hr p (List.mem_of_mem_drop hp) : ∀ p ∈ ps.drop (m + 1), ringT p = true)
      omega
    refine ⟨hn, by omega, by omega, fun p hp' => ?_, ?_, by omega⟩
    · rw [hform] at hp'
      rcases List.mem_append.1 hp' with e | e
      · exact hr p (List.mem_of_mem_take e)
      · rcases List.mem_cons.1 e with e | e
        · rw [e]; exact hx
        · exact hr p (List.mem_of_mem_drop e)
    · rw [hps, chn_app] at hc
      rw [hlook, chn_app]
      refine ⟨hc.1, ?_⟩
      simp only [chn]
      exact ⟨join_self hx ⟨rfl, rfl⟩, hc.2⟩
  have hrem : remL (insL ps i (rg ps m)) (i : Int) = ps := by
    unfold remL
    rw [Int.toNat_natCast, hform, List.take_append_of_le_length (by omega), List.take_take, Nat.min_self, List.drop_append, htl, List.drop_eq_nil_of_le (by omega), show i + 1 - i = 1 by omega]
    simp
  refine ⟨?_, hprof, ?_⟩
  · unfold insI
    have hrb : ringB (rg ps m).1 (rg ps m).2.1 (rg ps m).2.2 = true := hx
    rw [hp, hrb]
    simp only [Bool.and_self, if_true]
    rw [if_pos (inB_mk (by omega)), if_neg (by omega)]
    exact doneR_t hprof
  · unfold remI
    rw [if_pos hprof, if_pos (inB_mk (by omega)), hrem]
    exact doneR_t hp
theorem thin_ok (ps : List (Int × Int × Int)) : ∀ n k, k < n → wallT (rg ps (bestK thinB ps n)) ≤ wallT (rg ps k)
  | n + 1, k, hk => by
    rw [bestK]
    rcases Nat.lt_or_ge k n with e | e
    · have ih := thin_ok ps n k e
      split
      · rename_i h
        have := of_decide_eq_true h
        unfold wallT at *; omega
      · exact ih
    · obtain rfl : k = n := by omega
      split
      · exact Int.le_refl _
      · rename_i h
        have : ¬ ((rg ps k).1 - (rg ps k).2.1 < (rg ps (bestK thinB ps k)).1 - (rg ps (bestK thinB ps k)).2.1) := fun e => h (decide_eq_true e)
        unfold wallT; omega
theorem hI_nonneg {rs : List (Int × Int × Int)} (h : rs.all ringT = true) : 0 ≤ heightI rs := by
  have := (height_bd h rs.length).1
  rwa [List.take_length] at this
theorem hI_ge {rs : List (Int × Int × Int)} (h : rs.all ringT = true) (hl : 1 ≤ rs.length) : 10 ≤ heightI rs := by
  cases rs with
  | nil => simp at hl
  | cons x r =>
    rw [List.all_cons, Bool.and_eq_true] at h
    have h1 := ringT_t h.1
    have h2 := hI_nonneg h.2
    rw [hI_cons]; omega

end Go.Proofs.YtgdadbmhdljcdaaGreatDoor
