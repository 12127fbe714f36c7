/- slices.Insert at rings, where there is room, and where there is none. -/
import Derived.Test.YtjlenafdpoknhaaInsR
namespace Go.Proofs.Ytjlenafdpoknhaa
set_option linter.unusedVariables false
open Go.RowKit Go.Proofs.Bell Go.BigFrame

set_option maxRecDepth 100000 in
set_option maxHeartbeats 3200000 in
theorem InsertRoom_c (base g cap i vb : Nat) (rs : List (Int × Int × Int)) (r : Int × Int × Int) (w : World) (h : OwnR base w (.slice (some ⟨g, 0, none⟩) rs.length cap) rs) (hv : w.heap[vb]? = some (ringO r)) (hne : vb ≠ g) (hi : i < rs.length) (hroom : rs.length + 1 ≤ cap) (hm : rs.length ≤ 1000) :
    Calls Try.prog 48 #[.slice (some ⟨g, 0, none⟩) rs.length cap, .int .i64 i, .slice (some ⟨vb, 0, none⟩) 1 1] w (RetIns base g (rs.take i ++ r :: rs.drop i) w) := by
  have hvc := ring_cells hv
  obtain ⟨ys, hw⟩ := own_widen h (m := rs.length + 1) (by omega) hroom
  obtain ⟨c0, cur, hcur, hcm, hcsz⟩ : ∃ c0 cur, w.heap[g]? = some (.cells cur 38 c0) ∧ cap ≤ maxLen ∧ cur.size = cap * 3 := by
    rcases h.2 with ⟨h', _⟩ | ⟨g', cap', cur, h', _, h1, _, h2, h3, _⟩
    · simp at h'
    · simp only [Value.slice.injEq, Option.some.injEq, Addr.mk.injEq, and_true, true_and] at h'
      obtain ⟨rfl, rfl⟩ := h'
      exact ⟨_, cur, h1, h2, h3⟩
  have hov := fun off lb cb => overlap_apart (off := off) hv hcur hne (by omega) lb cb
  have hxl : (trips rs ++ ys).length = (rs.length + 1) * 3 := hw.1
  have h3 := trips_len rs
  have hpi := put_in (Nat.le_of_lt hi) r hxl (by rw [List.take_append_of_le_length (by omega), trips_take])
  have hd : w.drew.ownsRow base 38 3 (.slice (some ⟨g, 0, none⟩) (rs.length + 1) cap) (rs.length + 1) (trips rs ++ ys) := hw
  have hcell : ∀ t, t < (rs.length + 1) * 3 → w.drew.cell? ⟨g, t, none⟩ = (trips rs ++ ys)[t]? := fun t ht => World.ownsRow.cellAt hd t ht
  have hl1 : (trips (rs.drop i)).length = (rs.length - i) * 3 := by rw [trips_len, List.length_drop]
  have hsp : ∀ t, t < (rs.length + 1) * 3 → (w.drew.cell? ⟨g, t, none⟩).isSome = true := fun t ht => by rw [hcell t ht, List.getElem?_eq_getElem (by omega)]; rfl
  have hcp1 : ∀ ty dc sc, (Builtin.copy_ #[26, 26] ty #[.slice (some ⟨g, (i + 1) * 3, none⟩) (rs.length - i) dc, .slice (some ⟨g, i * 3, none⟩) (rs.length + 1 - i) sc]).run Try.prog w.drew = .ok (goInt ((rs.length - i : Nat) : Int)) (w.drew.setCells g ((i + 1) * 3) (trips (rs.drop i))) := fun ty dc sc =>
    run_copy_R w.drew ty g ((i + 1) * 3) (rs.length - i) (rs.length - i) dc ⟨g, i * 3, none⟩ (rs.length + 1 - i) sc _ (by simp only [Nat.min_def]; split <;> omega) hl1
      (fun j v hj => by
        have h1 := (List.getElem?_eq_some_iff.1 hj).1
        rw [add_norm _ rfl, hcell _ (show i * 3 + j < _ by omega), List.getElem?_append_left (by omega)]
        rw [← trips_drop, List.getElem?_drop] at hj
        exact hj)
      (fun j hj => hsp _ (by omega)) (fun j hj => World.ownsRow.frozenAt hd _) trips_one
  have ho1 := own_setCells (trips (rs.drop i)) ((i + 1) * 3) _ _ hd
  have ho2 := own_setCells (trips [r]) (i * 3) _ _ ho1
  rw [hpi.2] at ho2
  have hlen : (rs.take i ++ r :: rs.drop i).length = rs.length + 1 := by rw [List.length_append, List.length_cons, List.length_take, List.length_drop]; omega
  have hfin : RetIns base g (rs.take i ++ r :: rs.drop i) w (.returned (.slice (some ⟨g, 0, none⟩) (rs.length + 1) cap)) ((w.drew.setCells g ((i + 1) * 3) (trips (rs.drop i))).setCells g (i * 3) (trips [r])) :=
    ⟨_, rfl, by unfold OwnR; rw [hlen]; exact ho2, only_setCells _ _ _ _ (only_setCells _ _ _ _ (Only.of_below ⟨rfl, rfl, rfl, Nat.le_refl _, fun _ _ => rfl⟩))⟩
  obtain ⟨W1, hW1⟩ : ∃ W1, W1 = w.drew.setCells g ((i + 1) * 3) (trips (rs.drop i)) := ⟨_, rfl⟩
  have hvc1 : ∀ j v, (trips [r])[j]? = some v → W1.cell? ((⟨vb, 0, none⟩ : Addr).add j) = some v := fun j v hj => by
    rw [hW1, World.cell?_setCells_out _ _ _ _ _ (fun e _ => absurd (by rw [add_norm _ rfl] at e; exact e) hne)]
    exact hvc j v hj
  rw [← hW1] at hcp1 hfin ho1
  have hcp2 : ∀ ty dc, (Builtin.copy_ #[26, 26] ty #[.slice (some ⟨g, i * 3, none⟩) (rs.length + 1 - i) dc, .slice (some ⟨vb, 0, none⟩) 1 1]).run Try.prog W1 = .ok (goInt ((1 : Nat) : Int)) (W1.setCells g (i * 3) (trips [r])) := fun ty dc =>
    run_copy_R W1 ty g (i * 3) 1 (rs.length + 1 - i) dc ⟨vb, 0, none⟩ 1 1 _ (by simp only [Nat.min_def]; split <;> omega) (by simp [trips]) hvc1
      (fun j hj => by
        have hj3 : j < 3 := by simpa [trips] using hj
        rw [World.ownsRow.cellAt ho1 _ (by omega), List.getElem?_eq_getElem (by rw [layL_len]; omega)]; rfl)
      (fun j hj => World.ownsRow.frozenAt ho1 _) trips_one
  have hw1 : IntKind.i64.wrap ((i : Int) + 1) = (i : Int) + 1 := IntWalk.i64_in _ (by omega)
  have hw2 : IntKind.i64.wrap ((rs.length : Int) + 1) = (rs.length : Int) + 1 := IntWalk.i64_in _ (by omega)
  have b1 : (0 : Int) ≤ (i : Int) + 1 := by omega
  have b2 : (i : Int) + 1 ≤ (rs.length : Int) + 1 := by omega
  have b3 : ((i : Int) + 1).toNat = i + 1 := by omega
  have b4 : ((rs.length : Int) + 1).toNat = rs.length + 1 := by omega
  have b5 : (0 : Int) ≤ (rs.length : Int) + 1 := by omega
  have b6 : (rs.length : Int) + 1 ≤ (cap : Int) := by omega
  have b7 : ¬ (cap = i) := by omega
  have b8 : ¬ (cap = i + 1) := by omega
  have b9 : i ≤ rs.length := by omega
  have b10 : i ≤ rs.length + 1 := by omega
  have b11 : decide ((cap : Int) < (rs.length : Int) + 1) = false := decide_eq_false (by omega)
  have b12 : ¬ ((i : Int) = (rs.length : Int)) := by omega
  have b13 : (i : Int) ≤ (rs.length : Int) + 1 := by omega
  clear hW1 hvc1 hvc hw hd hcell hsp ho1 ho2 hlen hpi hxl h3 hl1 hcur h hv
  have HFIN := Lib.hid hfin; clear hfin
  generalize trips (rs.drop i) = vs1 at *
  generalize trips [r] = vs2 at *
  generalize rs.length = n at *
  go_enter Try.func48, Try.ntmps48
  go_wp2_with (simp only [hov])
  go_region_law (refine step_copy_runR rfl _ _ 26 26 rfl _ _ (by simp [Act.eval, Act.put]) (by simp [Act.eval, Act.put]) (hcp1 _ _ _) ?_)
  go_wp2_with (at_builtin; refine wpList_copy_runR _ rfl _ _ 26 26 rfl _ _ rfl rfl (hcp2 _ _) ?_)
  go_returns
  exact HFIN.out

end Go.Proofs.Ytjlenafdpoknhaa
