/- Cuts sorted, read again and found again: the plain law of FnCuts. -/
import Derived.Test.YtgdadbmhdljcdaaGreatDoorBetw
import Derived.Test.YtgdadbmhdljcdaaGreatDoorLatheL
import Derived.Test.YtgdadbmhdljcdaaGreatDoorR8Z
import Derived.Test.YtgdadbmhdljcdaaGreatDoorRgL
import Derived.Test.YtgdadbmhdljcdaaGreatDoorTD
import Derived.Test.YtgdadbmhdljcdaaGreatDoorTxtD
namespace Go.Proofs.YtgdadbmhdljcdaaGreatDoor
set_option linter.unusedVariables false
open Go.RowKit Go.Proofs.Bell Go.BigFrame

theorem zoneSum_cons (c : Int × Int) (r : List (Int × Int)) (z : Nat) : zoneSum (c :: r) z = (if c.1 = (z : Int) then c.2 else 0) + zoneSum r z := by
  unfold zoneSum
  by_cases h : c.1 = (z : Int) <;> simp [List.filter_cons, h]
theorem zoneSum_ct {nz : Nat} : ∀ {cs : List (Int × Int)}, CtI nz cs → ∀ z, 0 ≤ zoneSum cs z ∧ zoneSum cs z ≤ 4 * (cs.length : Int) ∧ (nz ≤ z → zoneSum cs z = 0)
  | [], _, z => by simp [zoneSum]
  | c :: r, h, z => by
    obtain ⟨a, b, d⟩ := zoneSum_ct (cs := r) (fun x hx => h x (List.mem_cons_of_mem _ hx)) z
    obtain ⟨h1, h2, h3, h4⟩ := h c (List.mem_cons_self ..)
    rw [zoneSum_cons]
    simp only [List.length_cons]
    refine ⟨by split <;> omega, by split <;> (push_cast; omega), fun hz => ?_⟩
    rw [if_neg (by omega), d hz]; rfl
theorem sums_getD (cs : List (Int × Int)) {z : Nat} (h : z < 8) : (sumsOf cs).getD z 0 = zoneSum cs z := by rw [List.getD, sumsOf_at cs h]; rfl
theorem sums_getD_out (cs : List (Int × Int)) {z : Nat} (h : 8 ≤ z) : (sumsOf cs).getD z 0 = 0 := by rw [List.getD, List.getElem?_eq_none (by rw [sumsOf_len]; exact h)]; rfl
def sum8 (f : Nat → Int) : Int := f 0 + f 1 + f 2 + f 3 + f 4 + f 5 + f 6 + f 7
theorem steps_sum : ∀ {cs : List (Int × Int)}, (∀ c ∈ cs, 0 ≤ c.1 ∧ c.1 < 8) → sumSteps cs = sum8 (zoneSum cs)
  | [], _ => by simp [sumSteps, sum8, zoneSum]
  | c :: r, h => by
    have ih := steps_sum (cs := r) (fun x hx => h x (List.mem_cons_of_mem _ hx))
    obtain ⟨h1, h2⟩ := h c (List.mem_cons_self ..)
    have e : sumSteps (c :: r) = c.2 + sumSteps r := by simp [sumSteps]
    rw [e, ih]
    unfold sum8
    simp only [zoneSum_cons]
    have hc : c.1 = 0 ∨ c.1 = 1 ∨ c.1 = 2 ∨ c.1 = 3 ∨ c.1 = 4 ∨ c.1 = 5 ∨ c.1 = 6 ∨ c.1 = 7 := by omega
    rcases hc with e | e | e | e | e | e | e | e <;> rw [e] <;> simp <;> omega
theorem cutsK_mem {L : List Int} {c : Int × Int} : ∀ {n : Nat}, c ∈ cutsK L n → ∃ k : Nat, k < n ∧ c = ((k : Int), L.getD k 0) ∧ 0 < L.getD k 0
  | 0, h => by simp [cutsK] at h
  | n + 1, h => by
    rw [cutsK] at h
    rcases List.mem_append.1 h with h | h
    · obtain ⟨k, h1, h2, h3⟩ := cutsK_mem h
      exact ⟨k, by omega, h2, h3⟩
    · split at h
      · rename_i hp
        exact ⟨n, by omega, List.mem_singleton.1 h, hp⟩
      · cases h
theorem cutsK_sum {L : List Int} (hL : ∀ k, 0 ≤ L.getD k 0) (z : Nat) : ∀ n, zoneSum (cutsK L n) z = if z < n then L.getD z 0 else 0
  | 0 => by simp [cutsK, zoneSum]
  | n + 1 => by
    have ih := cutsK_sum hL z n
    by_cases hp : 0 < L.getD n 0
    · rw [cutsK_yes hp, zoneSum_snoc, ih]
      by_cases e : z = n
      · subst e; simp
      · have : ¬ ((n : Int) = (z : Int)) := by omega
        simp only [this, if_false]
        by_cases h1 : z < n
        · rw [if_pos h1, if_pos (by omega)]; omega
        · rw [if_neg h1, if_neg (by omega)]; rfl
    · rw [cutsK_no hp, ih]
      have h0 : L.getD n 0 = 0 := by have := hL n; omega
      by_cases e : z = n
      · subst e; rw [if_neg (by omega), if_pos (by omega), h0]
      · by_cases h1 : z < n
        · rw [if_pos h1, if_pos (by omega)]
        · rw [if_neg h1, if_neg (by omega)]
theorem cutsK_tail {L : List Int} {m : Nat} (h : ∀ k, m ≤ k → ¬ 0 < L.getD k 0) : ∀ d, cutsK L (m + d) = cutsK L m
  | 0 => rfl
  | d + 1 => by rw [← Nat.add_assoc, cutsK_no (h _ (by omega)), cutsK_tail h d]
theorem cutsK_congr {L M : List Int} : ∀ {n : Nat}, (∀ k, k < n → L.getD k 0 = M.getD k 0) → cutsK L n = cutsK M n
  | 0, _ => rfl
  | n + 1, h => by rw [cutsK, cutsK, cutsK_congr (fun k hk => h k (by omega)), h n (by omega)]
theorem cutsK_up {L : List Int} : ∀ n, (cutsK L n).Pairwise (fun a b => a.1 < b.1)
  | 0 => by simp [cutsK]
  | n + 1 => by
    have ih := cutsK_up (L := L) n
    by_cases hp : 0 < L.getD n 0
    · rw [cutsK_yes hp, List.pairwise_append]
      refine ⟨ih, by simp, fun a ha b hb => ?_⟩
      obtain ⟨k, h1, h2, _⟩ := cutsK_mem ha
      rw [List.mem_singleton.1 hb, h2]
      show (k : Int) < (n : Int)
      omega
    · rw [cutsK_no hp]; exact ih
theorem pairs_up {D : List (Int × Int)} (h : D.Pairwise (fun a b => a.1 < b.1)) {i : Nat} (h1 : i + 1 < D.length) : (D[i]).1 < (D[i + 1]).1 := List.pairwise_iff_getElem.1 h i (i + 1) (by omega) h1 (by omega)

/-- what is asked of the drawn cuts -/
structure CutG (nm : ByteArray) (ps : List (Int × Int × Int)) (zs : List Int) (cs D : List (Int × Int)) : Prop where
  sort : sortI cs = (D, 0)
  tot : totalI cs = (sumSteps cs, 0)
  tot2 : totalI D = (sumSteps cs, 0)
  len : D.length ≤ zs.length
  len8 : D.length ≤ 8
  text : readC (byteL (cutsTI D)) = some D
  up : ∀ i (h : i + 1 < D.length), (D[i]).1 < (D[i + 1]).1
  same : applyI nm ps zs D = applyI nm ps zs cs
  code : (applyI nm ps zs cs).2.2 = 0 ∨ (applyI nm ps zs cs).2.2 = 6
  back : (applyI nm ps zs cs).2.2 = 0 → applyI nm ps zs cs = (nm, (applyI nm ps zs cs).2.1, 0) ∧ betI nm ps nm (applyI nm ps zs cs).2.1 zs = (D, 0)

theorem mapK_ext {T T' : Nat → Int × Int × Int → Int × Int × Int} {ps : List (Int × Int × Int)} : ∀ {n : Nat}, (∀ k, k < n → T k (rg ps k) = T' k (rg ps k)) → mapK T ps n = mapK T' ps n
  | 0, _ => rfl
  | n + 1, h => by rw [mapK, mapK, mapK_ext (fun k hk => h k (by omega)), h n (by omega)]
theorem cut_good {nm : ByteArray} {ps : List (Int × Int × Int)} {zs : List Int} {cs : List (Int × Int)} (hp : profB nm ps = true) (hz : zonesB zs ((ps.length : Int) - 1) = true) (hc : CtI zs.length cs) (h4 : cs.length ≤ 4) :
    CutG nm ps zs cs (cutsL (sumsOf cs)) := by
  obtain ⟨hz1, hz8⟩ := zones_len hz
  have hsum := fun z => zoneSum_ct hc z
  have hgd : ∀ k, (sumsOf cs).getD k 0 = if k < 8 then zoneSum cs k else 0 := fun k => by
    split
    · rename_i h; exact sums_getD cs h
    · rename_i h; exact sums_getD_out cs (by omega)
  have h0 : ∀ k, 0 ≤ (sumsOf cs).getD k 0 := fun k => by rw [hgd]; split <;> first | exact (hsum k).1 | exact Int.le_refl _
  have h16 : ∀ k, (sumsOf cs).getD k 0 ≤ 16 := fun k => by rw [hgd]; have := hsum k; split <;> omega
  have hzero : ∀ k, zs.length ≤ k → (sumsOf cs).getD k 0 = 0 := fun k hk => by rw [hgd]; split <;> first | exact (hsum k).2.2 hk | rfl
  have hv : vzB nm ps zs = true := by simp only [vzB, hp, hz, Bool.and_true]
  have hcb : cutsB cs = true := by
    simp only [cutsB, Bool.and_eq_true, decide_eq_true_eq, List.all_eq_true]
    refine ⟨fun c hcm => ?_, by omega⟩
    obtain ⟨a, b, d, e⟩ := hc c hcm
    simp only [cutB, Bool.and_eq_true]
    exact ⟨inB_mk (by omega), inB_mk (by omega)⟩
  have hall : (sumsOf cs).all (fun z => decide (z ≤ 20)) = true := by
    rw [List.all_eq_true]
    intro x hx
    obtain ⟨j, hj, rfl⟩ := List.getElem_of_mem hx
    have := h16 j
    rw [List.getD, List.getElem?_eq_getElem hj, Option.getD_some] at this
    exact decide_eq_true (by omega)
  have hlen8 : (sumsOf cs).length = 8 := sumsOf_len cs
  have hD : cutsL (sumsOf cs) = cutsK (sumsOf cs) 8 := by unfold cutsL; rw [hlen8]
  have hDz : cutsK (sumsOf cs) 8 = cutsK (sumsOf cs) zs.length := by
    have := cutsK_tail (L := sumsOf cs) (m := zs.length) (fun k hk => by rw [hzero k hk]; omega) (8 - zs.length)
    rw [← this]; congr 1; omega
  have hmem : ∀ c ∈ cutsL (sumsOf cs), 0 ≤ c.1 ∧ c.1 < (zs.length : Int) ∧ 1 ≤ c.2 ∧ c.2 ≤ 16 := fun c hcm => by
    rw [hD, hDz] at hcm
    obtain ⟨k, h1, h2, h3⟩ := cutsK_mem hcm
    have := h16 k
    rw [h2]
    exact ⟨by show 0 ≤ (k : Int); omega, by show (k : Int) < _; omega, by show 1 ≤ (sumsOf cs).getD k 0; omega, this⟩
  have hlz : (cutsL (sumsOf cs)).length ≤ zs.length := by rw [hD, hDz]; exact cutsK_len _ _
  have hDB : cutsB (cutsL (sumsOf cs)) = true := by
    simp only [cutsB, Bool.and_eq_true, decide_eq_true_eq, List.all_eq_true]
    refine ⟨fun c hcm => ?_, by omega⟩
    obtain ⟨a, b, d, e⟩ := hmem c hcm
    simp only [cutB, Bool.and_eq_true]
    exact ⟨inB_mk (by omega), inB_mk (by omega)⟩
  have hsame : sumsOf (cutsL (sumsOf cs)) = sumsOf cs := by
    refine List.ext_getElem (by rw [sumsOf_len, sumsOf_len]) fun z h1 h2 => ?_
    rw [sumsOf_len] at h1
    have e1 := sums_getD (cutsL (sumsOf cs)) h1
    have e2 := sums_getD cs h1
    rw [List.getD, List.getElem?_eq_getElem (by rw [sumsOf_len]; exact h1), Option.getD_some] at e1 e2
    rw [e1, hD, cutsK_sum h0 z 8, if_pos h1, hgd, if_pos h1, e2]
  have hov : ∀ ds : List (Int × Int), (∀ c ∈ ds, c.1 < (zs.length : Int)) → overB zs ds = false := fun ds h => over_no (fun j hj => by have := h _ (List.getElem_mem hj); omega)
  have hask : cutAsk nm ps zs cs = 0 := by
    unfold cutAsk
    rw [hv, hcb, hov cs (fun c h => (hc c h).2.1), hall]; rfl
  have hask2 : cutAsk nm ps zs (cutsL (sumsOf cs)) = 0 := by
    unfold cutAsk
    rw [hv, hDB, hov _ (fun c h => (hmem c h).2.1), hsame, hall]; rfl
  have hap : applyI nm ps zs cs = doneR nm (mapK (turnT zs (sumsOf cs)) ps ps.length) := by unfold applyI; rw [if_pos hask]
  refine ⟨by unfold sortI; rw [if_pos hcb, if_pos hall], by unfold totalI; rw [if_pos hcb], ?_, hlz, by omega, ?_, fun i h => ?_, ?_, ?_, fun hok => ?_⟩
  · unfold totalI
    rw [if_pos hDB]
    have a := steps_sum (cs := cutsL (sumsOf cs)) (fun c h => by obtain ⟨x, y, _⟩ := hmem c h; omega)
    have b := steps_sum (cs := cs) (fun c h => by obtain ⟨x, y, _⟩ := hc c h; omega)
    rw [a, b]
    have key : ∀ z, z < 8 → zoneSum (cutsL (sumsOf cs)) z = zoneSum cs z := fun z hz => by
      rw [← sums_getD _ hz, hsame, sums_getD _ hz]
    unfold sum8
    rw [key 0 (by omega), key 1 (by omega), key 2 (by omega), key 3 (by omega), key 4 (by omega), key 5 (by omega), key 6 (by omega), key 7 (by omega)]
  · unfold cutsTI
    rw [if_pos hDB, byteL_str]
    exact readC_text hDB
  · have hu := cutsK_up (L := sumsOf cs) 8
    rw [← hD] at hu
    exact pairs_up hu h
  · rw [hap]
    unfold applyI
    rw [if_pos hask2, hsame]
  · rw [hap]
    unfold doneR
    split
    · exact .inl rfl
    · exact .inr rfl
  · rw [hap] at hok ⊢
    have hq : profB nm (mapK (turnT zs (sumsOf cs)) ps ps.length) = true := by
      unfold doneR at hok
      split at hok
      · rename_i h; exact h
      · cases hok
    rw [doneR_t hq]
    refine ⟨rfl, ?_⟩
    have hlq := mapK_len (turnT zs (sumsOf cs)) ps ps.length
    have hst : ∀ z, z < zs.length → stepAt ps (mapK (turnT zs (sumsOf cs)) ps ps.length) zs z = (sumsOf cs).getD z 0 := fun z hzl => by
      obtain ⟨a, b, d⟩ := zones_at hz hzl
      have hk : (zs.getD z 0).toNat < ps.length := by omega
      have hzi : zoneI zs ((zs.getD z 0).toNat : Int) = z := zoneI_at hz hzl (by omega) (by omega)
      unfold stepAt
      rw [mapK_rg _ _ _ _ hk]
      unfold turnT
      simp only
      rw [hzi, show (rg ps (zs.getD z 0).toNat).2.1 + 10 * (sumsOf cs).getD z 0 - (rg ps (zs.getD z 0).toNat).2.1 = 10 * (sumsOf cs).getD z 0 by omega, Int.mul_tdiv_cancel_left _ (by omega)]
    have hsk : ∀ k, k < zs.length → (stepsK ps (mapK (turnT zs (sumsOf cs)) ps ps.length) zs zs.length).getD k 0 = (sumsOf cs).getD k 0 := fun k hk => by
      rw [stepsK_at _ _ _ _ _ hk, hst k hk]
    have hsb : stepsB ps (mapK (turnT zs (sumsOf cs)) ps ps.length) zs = true := stepsB_of fun j hj => by
      rw [hst j hj]
      exact inB_mk ⟨h0 j, by have := h16 j; omega⟩
    have hmk : mapK (turnT zs (stepsK ps (mapK (turnT zs (sumsOf cs)) ps ps.length) zs zs.length)) ps ps.length = mapK (turnT zs (sumsOf cs)) ps ps.length := mapK_ext fun k hk => by
      have e := hsk (zoneI zs k) (zoneI_lt zs k hz1)
      show ((rg ps k).1, (rg ps k).2.1 + 10 * (stepsK ps (mapK (turnT zs (sumsOf cs)) ps ps.length) zs zs.length).getD (zoneI zs k) 0, (rg ps k).2.2) = _
      rw [e]; rfl
    unfold betI
    rw [if_pos (by rw [hv, hq]; rfl), if_pos (by simp [hlq]), if_pos (by rw [hsb, hmk]; simp [eqT])]
    congr 1
    unfold cutsL
    rw [stepsK_len, cutsK_congr hsk, hlen8, hDz]

end Go.Proofs.YtgdadbmhdljcdaaGreatDoor
