/- slices.Insert at rings, where there is no room; and the three together. -/
import Derived.Test.YtjlenafdpoknhaaInsR2
import Derived.Laws.NewBlocks
namespace Go.Proofs.Ytjlenafdpoknhaa
set_option linter.unusedVariables false
open Go.RowKit Go.Proofs.Bell Go.BigFrame

theorem below_setCells {B g : Nat} : ∀ (vs : List Value) (o : Nat) (w w' : World), Below B w w' → B ≤ g → Below B w (w'.setCells g o vs)
  | [], _, _, _, h, _ => h
  | v :: r, o, w, w', h, hb => below_setCells r (o + 1) w _ (h.setCell hb v) hb
theorem zeros_len (z : Array Value) (n : Nat) : (Builtin.zeroCells z n).size = n * z.size := by simp [Builtin.zeroCells]
set_option maxRecDepth 100000 in
set_option maxHeartbeats 3200000 in
theorem InsertGrow_c (base g cap i vb : Nat) (rs : List (Int × Int × Int)) (r : Int × Int × Int) (w : World) (h : OwnR base w (.slice (some ⟨g, 0, none⟩) rs.length cap) rs) (hbase : base ≤ w.heap.size) (hv : w.heap[vb]? = some (ringO r)) (hne : vb ≠ g) (hi : i < rs.length) (hroom : cap < rs.length + 1) (hm : rs.length ≤ 1000) :
    Calls Try.prog 48 #[.slice (some ⟨g, 0, none⟩) rs.length cap, .int .i64 i, .slice (some ⟨vb, 0, none⟩) 1 1] w (RetIns base g (rs.take i ++ r :: rs.drop i) w) := by
  have hvc := ring_cells hv
  have hnc := rd_cap (Rd.of_own h)
  have hgl := own_lt h g rfl
  have hvl : vb < w.heap.size := by
    rcases Nat.lt_or_ge vb w.heap.size with h' | h'
    · exact h'
    · rw [Array.getElem?_eq_none h'] at hv; cases hv
  obtain ⟨i0, hi0, hz0, hz1, hz2⟩ := info_parts info_Ring
  have h3 := trips_len rs
  have ht := trips_take rs i
  have htl : (trips (rs.take i)).length = i * 3 := by rw [trips_len, List.length_take, Nat.min_eq_left (Nat.le_of_lt hi)]
  have hold : (Builtin.firstCells i0.size i (.slice (some ⟨g, 0, none⟩) i cap)).run Try.prog w.drew = .ok (trips (rs.take i)).toArray w.drew := by
    rw [hz1]
    exact run_firstCells_some w.drew 3 i ⟨g, 0, none⟩ i cap (trips (rs.take i)) htl (fun j v hj => by
      have h1 := (List.getElem?_eq_some_iff.1 hj).1
      rw [add_norm _ rfl, Nat.zero_add]
      show w.cell? _ = _
      rw [World.ownsRow.cellAt h _ (by omega)]
      rw [← ht, List.getElem?_take, if_pos (by omega)] at hj
      exact hj)
  have hik : i + (rs.length + 1 - i) = rs.length + 1 := by omega
  have hkk : (rs.length : Int) + 1 - (i : Int) = ((rs.length + 1 - i : Nat) : Int) := by omega
  obtain ⟨G, hG⟩ : ∃ G, G = grownCap w (rs.length + 1) cap 38 := ⟨_, rfl⟩
  obtain ⟨ROW, hROW⟩ : ∃ ROW : Array Value, ROW = (trips (rs.take i)).toArray ++ Builtin.zeroCells (Value.agg #[.int .i64 0, .int .i64 0, .int .i64 0]).cells (rs.length + 1 - i) ++ Builtin.zeroCells (Value.agg #[.int .i64 0, .int .i64 0, .int .i64 0]).cells (G - (rs.length + 1)) := ⟨_, rfl⟩
  have hrz : ∀ ty, (Builtin.append_ #[26, 3] ty #[.slice (some ⟨g, 0, none⟩) i cap, .int .i64 ((rs.length : Int) + 1 - (i : Int))]).run Try.prog w =
      .ok (.slice (some ⟨w.heap.size, 0, none⟩) (rs.length + 1) G) (w.drew.alloc (.cells ROW 38)) := fun ty => by
    have q := Lib.run_append_grow_zeros w 26 3 ty 38 i0 _ .i64 .i64 Try.underlying26 Try.underlying3 hi0 hz0 (some ⟨g, 0, none⟩) i cap (trips (rs.take i)) hold (rs.length + 1 - i) (by omega) (by omega) (by omega) (by omega) (by rw [hz2]; omega) (by rw [hz2, hik]; exact growslice_fits hroom (by omega))
    rw [hik] at q
    rw [hkk, hROW, hG]
    exact q
  have hGn : rs.length + 1 ≤ G := by rw [hG]; exact grownCap_ge w _ _ _
  have hGm : G ≤ maxLen := by rw [hG]; exact grownCap_le_maxLen w (rs.length + 1) cap 38 (by unfold maxLen; omega)
  have hG63 : G ≤ 9223372036854775807 := by unfold maxLen at hGm; omega
  have hRs : ROW.size = G * 3 := by
    rw [hROW]
    simp only [Array.size_append, zeros_len, List.size_toArray, htl, Value.cells]
    simp
    omega
  have hRt : ROW.toList.take (i * 3) = trips (rs.take i) := by
    rw [hROW]
    simp only [Array.toList_append, List.append_assoc]
    rw [List.take_append_of_le_length (by simp [htl]), List.take_of_length_le (by simp [htl])]
  have hown : (w.drew.alloc (.cells ROW 38)).ownsRow base 38 3 (.slice (some ⟨w.heap.size, 0, none⟩) (rs.length + 1) G) (rs.length + 1) (ROW.toList.take ((rs.length + 1) * 3)) := own_of_row (w := w.drew) hbase hGm hRs hGn
  have hpi := put_in (Nat.le_of_lt hi) r hown.1 (by rw [List.take_take, Nat.min_eq_left (by omega)]; exact hRt)
  have ho1 := own_setCells (trips [r]) (i * 3) _ _ hown
  have hown2 : (w.alloc (.cells ROW 38)).drew.drew.ownsRow base 38 3 (.slice (some ⟨w.heap.size, 0, none⟩) (rs.length + 1) G) (rs.length + 1) (ROW.toList.take ((rs.length + 1) * 3)) := hown
  have ho2 := own_setCells (trips (rs.drop i)) ((i + 1) * 3) _ _ (own_setCells (trips [r]) (i * 3) _ _ hown2)
  rw [hpi.1] at ho2
  have hlen : (rs.take i ++ r :: rs.drop i).length = rs.length + 1 := by rw [List.length_append, List.length_cons, List.length_take, List.length_drop]; omega
  have hfin : RetIns base g (rs.take i ++ r :: rs.drop i) w (.returned (.slice (some ⟨w.heap.size, 0, none⟩) (rs.length + 1) G)) (((((w.alloc (.cells ROW 38)).drew.setCells w.heap.size (i * 3) (trips [r])).drew).setCells w.heap.size ((i + 1) * 3) (trips (rs.drop i)))) := by
    rw [drew_setCells']
    exact ⟨_, rfl, by unfold OwnR; rw [hlen]; exact ho2, Only.of_below (below_setCells _ _ _ _ (below_setCells _ _ _ _ (by go_grown) (Nat.le_refl _)) (Nat.le_refl _))⟩
  obtain ⟨W1, hW1⟩ : ∃ W1, W1 = w.drew.alloc (.cells ROW 38) := ⟨_, rfl⟩
  have hN : ∀ j, j < (rs.length + 1) * 3 → (W1.cell? ⟨w.heap.size, j, none⟩).isSome = true := fun j hj => by
    rw [hW1]
    have := World.ownsRow.cellAt hown j hj
    rw [this, List.getElem?_eq_getElem (by rw [hown.1]; exact hj)]; rfl
  have hNf : ∀ j, W1.frozen? ⟨w.heap.size, j, none⟩ = false := fun j => by rw [hW1]; exact World.ownsRow.frozenAt hown j
  have hOg : ∀ j v, w.cell? ⟨g, j, none⟩ = some v → W1.cell? ⟨g, j, none⟩ = some v := fun j v e => by rw [hW1]; exact alloc_cell (w := w.drew) _ e
  have hOv : ∀ j v, w.cell? ((⟨vb, 0, none⟩ : Addr).add j) = some v → W1.cell? ((⟨vb, 0, none⟩ : Addr).add j) = some v := fun j v e => by rw [hW1]; exact alloc_cell (w := w.drew) _ e
  have hl1 : (trips (rs.drop i)).length = (rs.length - i) * 3 := by rw [trips_len, List.length_drop]
  have hcpA : ∀ (W : World), (∀ x, W.cell? x = W1.cell? x) → (∀ x, W.frozen? x = W1.frozen? x) → ∀ ty dc, (Builtin.copy_ #[26, 26] ty #[.slice (some ⟨w.heap.size, i * 3, none⟩) (rs.length + 1 - i) dc, .slice (some ⟨vb, 0, none⟩) 1 1]).run Try.prog W = .ok (goInt ((1 : Nat) : Int)) (W.setCells w.heap.size (i * 3) (trips [r])) := fun W hWc hWf ty dc =>
    run_copy_R W ty w.heap.size (i * 3) 1 (rs.length + 1 - i) dc ⟨vb, 0, none⟩ 1 1 _ (by simp only [Nat.min_def]; split <;> omega) (by simp [trips])
      (fun j v hj => by rw [hWc]; exact hOv _ v (hvc j v hj))
      (fun j hj => by
        have hj3 : j < 3 := by simpa [trips] using hj
        rw [hWc]; exact hN _ (by omega)) (fun j hj => by rw [hWf]; exact hNf _) trips_one
  have hcpB : ∀ (W : World), (∀ x, W.cell? x = (W1.setCells w.heap.size (i * 3) (trips [r])).cell? x) → (∀ x, W.frozen? x = (W1.setCells w.heap.size (i * 3) (trips [r])).frozen? x) → ∀ ty dc sc, (Builtin.copy_ #[26, 26] ty #[.slice (some ⟨w.heap.size, (i + 1) * 3, none⟩) (rs.length - i) dc, .slice (some ⟨g, i * 3, none⟩) (rs.length - i) sc]).run Try.prog W = .ok (goInt ((rs.length - i : Nat) : Int)) (W.setCells w.heap.size ((i + 1) * 3) (trips (rs.drop i))) := fun W hWc hWf ty dc sc =>
    run_copy_R W ty w.heap.size ((i + 1) * 3) (rs.length - i) (rs.length - i) dc ⟨g, i * 3, none⟩ (rs.length - i) sc _ (by simp only [Nat.min_def]; split <;> omega) hl1
      (fun j v hj => by
        have h1 := (List.getElem?_eq_some_iff.1 hj).1
        rw [add_norm _ rfl, hWc, World.cell?_setCells_out _ _ _ _ _ (fun e _ => by simp only at e; omega)]
        refine hOg _ _ ?_
        show w.cell? ⟨g, i * 3 + j, none⟩ = _
        rw [World.ownsRow.cellAt h _ (by omega)]
        rw [← trips_drop, List.getElem?_drop] at hj
        exact hj)
      (fun j hj => by
        rw [hWc, hW1, World.ownsRow.cellAt ho1 _ (by omega), List.getElem?_eq_getElem (by rw [layL_len, hown.1]; omega)]; rfl)
      (fun j hj => by rw [hWf, hW1]; exact World.ownsRow.frozenAt ho1 _) trips_one
  have hE1 : ∀ x, ((w.alloc (.cells ROW 38)).drew).cell? x = (w.drew.alloc (.cells ROW 38)).cell? x := fun x => rfl
  have hE2 : ∀ x, ((w.alloc (.cells ROW 38)).drew).frozen? x = (w.drew.alloc (.cells ROW 38)).frozen? x := fun x => rfl
  have hF1 : ∀ x, (((w.alloc (.cells ROW 38)).drew.setCells w.heap.size (i * 3) (trips [r])).drew).cell? x = ((w.drew.alloc (.cells ROW 38)).setCells w.heap.size (i * 3) (trips [r])).cell? x := fun x => rfl
  have hF2 : ∀ x, (((w.alloc (.cells ROW 38)).drew.setCells w.heap.size (i * 3) (trips [r])).drew).frozen? x = ((w.drew.alloc (.cells ROW 38)).setCells w.heap.size (i * 3) (trips [r])).frozen? x := fun x => rfl
  subst hW1
  have hw1 : IntKind.i64.wrap ((i : Int) + 1) = (i : Int) + 1 := IntWalk.i64_in _ (by omega)
  have hw2 : IntKind.i64.wrap ((rs.length : Int) + 1) = (rs.length : Int) + 1 := IntWalk.i64_in _ (by omega)
  have hw3 : IntKind.i64.wrap ((rs.length : Int) + 1 - (i : Int)) = (rs.length : Int) + 1 - (i : Int) := IntWalk.i64_in _ (by omega)
  have b1 : (0 : Int) ≤ (i : Int) + 1 := by omega
  have b2 : (i : Int) + 1 ≤ (rs.length : Int) + 1 := by omega
  have b3 : ((i : Int) + 1).toNat = i + 1 := by omega
  have b7 : ¬ (cap = i) := by omega
  have b8 : ¬ (G = i + 1) := by omega
  have b81 : ¬ (G = i) := by omega
  have b9 : i ≤ rs.length := by omega
  have b10 : i ≤ rs.length + 1 := by omega
  have b11 : decide ((cap : Int) < (rs.length : Int) + 1) = true := decide_eq_true (by omega)
  have b12 : ¬ ((i : Int) = (rs.length : Int)) := by omega
  have b13 : (i : Int) ≤ (rs.length : Int) + 1 := by omega
  have b14 : i ≤ cap := by omega
  have HFIN := Lib.hid hfin; clear hfin
  clear hkk hik hold hROW hG hRs hRt hown hown2 hpi ho1 ho2 hlen hN hNf hOg hOv hl1 h3 ht htl hvc h hv hz0 hz1 hz2 hi0
  generalize trips (rs.drop i) = vs1 at *
  generalize trips [r] = vs2 at *
  generalize rs.length = n at *
  go_enter Try.func48, Try.ntmps48
  go_wp2_with (first
    | (at_builtin; refine Lib.wpList_append_run _ rfl _ _ _ _ rfl _ _ rfl rfl _ _ (hrz _) ?_)
    | (at_builtin; refine wpList_copy_runR _ rfl _ _ 26 26 rfl _ _ rfl rfl (hcpA _ hE1 hE2 _ _) ?_))
  go_region_law (refine step_copy_runR rfl _ _ 26 26 rfl (.slice (some ⟨w.heap.size, (i + 1) * 3, none⟩) (n - i) (G - (i + 1))) (.slice (some ⟨g, i * 3, none⟩) (n - i) (cap - i)) (by simp [Act.eval, Act.put]) (by simp [Act.eval, Act.put]) (hcpB _ hF1 hF2 _ (G - (i + 1)) (cap - i)) ?_)
  go_wp2
  go_returns
  exact HFIN.out

theorem InsertR_c (base g cap i vb : Nat) (rs : List (Int × Int × Int)) (r : Int × Int × Int) (w : World) (h : OwnR base w (.slice (some ⟨g, 0, none⟩) rs.length cap) rs) (hbase : base ≤ w.heap.size) (hv : w.heap[vb]? = some (ringO r)) (hne : vb ≠ g) (hi : i ≤ rs.length) (hm : rs.length ≤ 1000) :
    Calls Try.prog 48 #[.slice (some ⟨g, 0, none⟩) rs.length cap, .int .i64 i, .slice (some ⟨vb, 0, none⟩) 1 1] w (RetIns base g (rs.take i ++ r :: rs.drop i) w) := by
  rcases Nat.lt_or_ge i rs.length with h1 | h1
  · rcases Nat.lt_or_ge cap (rs.length + 1) with h2 | h2
    · exact InsertGrow_c base g cap i vb rs r w h hbase hv hne h1 h2 hm
    · exact InsertRoom_c base g cap i vb rs r w h hv hne h1 h2 hm
  · obtain rfl : i = rs.length := by omega
    rw [List.take_length, List.drop_length]
    exact InsertEnd_c base g cap vb rs r w h hbase hv hm

end Go.Proofs.Ytjlenafdpoknhaa
