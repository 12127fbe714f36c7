/- slices.Delete at rings. -/
import Derived.Test.YtmickkodcclocaaRem
import Derived.Lib.Walk
namespace Go.Proofs.Ytmickkodcclocaa
set_option linter.unusedVariables false
open Go.RowKit Go.Proofs.Bell Go.BigFrame

def RetDel (base g n cap : Nat) (rs : List (Int × Int × Int)) (w : World) (e : Ending) (w' : World) : Prop := e = .returned (.slice (some ⟨g, 0, none⟩) n cap) ∧ OwnR base w' (.slice (some ⟨g, 0, none⟩) rs.length cap) rs ∧ Only (fun b => b = g) w w'
set_option maxRecDepth 100000 in
set_option maxHeartbeats 1600000 in
theorem DeleteR_c (base g cap i j : Nat) (rs : List (Int × Int × Int)) (w : World) (h : OwnR base w (.slice (some ⟨g, 0, none⟩) rs.length cap) rs) (hi : i < rs.length) (hj : j = i + 1) (hm : rs.length ≤ 1000) :
    Calls Try.prog 113 #[.slice (some ⟨g, 0, none⟩) rs.length cap, .int .i64 i, .int .i64 j] w (RetDel base g (rs.length - 1) cap (rs.take i ++ rs.drop (i + 1)) w) := by
  obtain ⟨i0, hi0, hz0, hz1, hz2⟩ := info_parts info_Ring
  obtain ⟨hcap, hcm⟩ : rs.length ≤ cap ∧ cap ≤ maxLen := by
    rcases h.2 with ⟨h', _⟩ | ⟨g', cap', cur, h', _, _, h1, h2, _⟩
    · simp at h'
    · simp only [Value.slice.injEq, Option.some.injEq, Addr.mk.injEq, and_true, true_and] at h'
      obtain ⟨rfl, rfl⟩ := h'
      exact ⟨h1, h2⟩
  have hlen : (trips (rs.drop j)).length = (rs.length - j) * 3 := by rw [trips_len, List.length_drop]
  have hd : OwnR base w.drew (.slice (some ⟨g, 0, none⟩) rs.length cap) rs := h
  have hcell : ∀ t, t < rs.length * 3 → w.drew.cell? ⟨g, t, none⟩ = (trips rs)[t]? := fun t ht => World.ownsRow.cellAt hd t ht
  have hfz := fun t => World.ownsRow.frozenAt hd t
  have h3 := trips_len rs
  obtain ⟨news, hnews⟩ : ∃ news, news = trips (rs.drop j) := ⟨_, rfl⟩
  rw [← hnews] at hlen
  have hfin : RetDel base g (rs.length - 1) cap (rs.take i ++ rs.drop (i + 1)) w (.returned (.slice (some ⟨g, 0, none⟩) (rs.length - 1) cap)) ((w.drew.setCells g (i * 3) news).setCells g ((rs.length - 1) * 3) [.int .i64 0, .int .i64 0, .int .i64 0]) := by
    have a := own_setCells [.int .i64 0, .int .i64 0, .int .i64 0] ((rs.length - 1) * 3) _ _ (own_setCells news (i * 3) _ _ hd)
    have b := own_cut a (m := rs.length - 1) (by omega)
    rw [hnews, hj, struck hi _ rfl] at b
    have hl : (rs.take i ++ rs.drop (i + 1)).length = rs.length - 1 := by rw [List.length_append, List.length_take, List.length_drop]; omega
    refine ⟨rfl, ?_, only_setCells _ _ _ _ (only_setCells _ _ _ _ (Only.of_below ⟨rfl, rfl, rfl, Nat.le_refl _, fun _ _ => rfl⟩))⟩
    unfold OwnR
    rw [hl]
    rw [hnews, hj]
    exact b
  obtain ⟨A, hA, hsrc⟩ : ∃ A : Addr, (if cap = j then some (⟨g, 0, none⟩ : Addr) else some ⟨g, j * 3, none⟩) = some A ∧ Hid (∀ t u, news[t]? = some u → w.drew.cell? (A.add t) = some u) := by
    by_cases hc : cap = j
    · refine ⟨⟨g, 0, none⟩, by simp [hc], Lib.hid fun t u hu => ?_⟩
      have h0 : news.length = 0 := by rw [hlen]; omega
      rw [List.length_eq_zero_iff.1 h0] at hu
      simp at hu
    · refine ⟨⟨g, j * 3, none⟩, by simp [hc], Lib.hid fun t u hu => ?_⟩
      have ht : t < (rs.length - j) * 3 := by
        have := (List.getElem?_eq_some_iff.1 hu).1
        rwa [hlen] at this
      rw [hnews, ← trips_drop, List.getElem?_drop] at hu
      rw [add_norm _ rfl, hcell _ (show j * 3 + t < _ by omega)]
      exact hu
  have s2 : ∀ u ∈ news, u.oneCell' = true := by
    intro u hu
    rw [hnews] at hu
    obtain ⟨p, _, hp⟩ := List.mem_flatMap.1 hu
    simp at hp
    rcases hp with rfl | rfl | rfl <;> rfl
  have s3 : ∀ t, t < news.length → (w.drew.cell? ⟨g, 0 + i * 3 + t, none⟩).isSome = true ∧ w.drew.frozen? ⟨g, 0 + i * 3 + t, none⟩ = false := by
    intro t ht
    rw [hlen] at ht
    refine ⟨?_, hfz _⟩
    rw [hcell _ (by omega), List.getElem?_eq_getElem (by omega)]; rfl
  have w1 : OwnR base (w.drew.setCells g (0 + i * 3) news) (.slice (some ⟨g, 0, none⟩) rs.length cap) rs → True := fun _ => trivial
  have s4 : ∀ t, t < 3 → ((w.drew.setCells g (i * 3) news).cell? ⟨g, (rs.length - 1) * 3 + t, none⟩).isSome = true := by
    intro t ht
    have a := own_setCells news (i * 3) _ _ hd
    rw [World.ownsRow.cellAt a _ (by omega), List.getElem?_eq_getElem (by rw [layL_len]; omega)]; rfl
  have s5 : ∀ t, t < 3 → (w.drew.setCells g (i * 3) news).frozen? ⟨g, (rs.length - 1) * 3 + t, none⟩ = false := by
    intro t ht
    rw [World.frozen?_setCells]; exact hfz _
  rw [Nat.zero_add] at s3
  clear hcell hfz h3 h hd hnews w1
  obtain ⟨W1, hW1⟩ : ∃ W1, W1 = w.drew.setCells g (i * 3) news := ⟨_, rfl⟩
  rw [← hW1] at s4 s5 hfin
  have hcl := fun ty c => run_clear_R W1 ty g ((rs.length - 1) * 3) c s4 s5
  have hlt : i < j := by omega
  have hj2 : j ≤ rs.length := by omega
  have hic : i ≤ cap := by omega
  have hjc : j ≤ cap := by omega
  have hk : Hid (i + (rs.length - j) = rs.length - 1) := Lib.hid (by omega)
  generalize rs.length = n at *
  have HFIN := Lib.hid hfin; clear hfin
  have S2 := Lib.hid s2; clear s2
  have S3 := Lib.hid s3; clear s3
  have HLEN := Lib.hid hlen; clear hlen
  have HW1 := Lib.hid hW1; clear hW1
  clear s4 s5
  have HJ := Lib.hid hj; clear hj
  go_enter Try.func113, Try.ntmps113
  go_wp2_with fail
  go_region_law (refine step_append_room rfl (.tmp 22) (.tmp 25) 26 rfl 80 i0 3 Try.underlying26 hi0 hz1 g 0 i cap (by simp [Act.eval, Act.put]) A (n - j) (cap - j) news (by simp [Act.eval, Act.put]) HLEN.out hsrc.out S2.out (by omega) (by rw [Nat.zero_add]; exact S3.out) ?_; rw [Nat.zero_add, ← HW1.out])
  rw [hk.out]
  have hn1 : n - (n - 1) = 1 := by omega
  have hle1 : n - 1 ≤ n := by omega
  have hle2 : n - 1 ≤ cap := by omega
  have hne : ¬ (cap = n - 1) := by omega
  go_wp2
  go_returns
  exact HFIN.out

end Go.Proofs.Ytmickkodcclocaa
