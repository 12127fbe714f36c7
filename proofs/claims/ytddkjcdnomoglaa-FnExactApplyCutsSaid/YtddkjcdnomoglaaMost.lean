/- How many steps a zone allows. -/
import Derived.Test.YtddkjcdnomoglaaTurn3
import Derived.Test.YtddkjcdnomoglaaSort
namespace Go.Proofs.Ytddkjcdnomoglaa
set_option linter.unusedVariables false
open Go.RowKit Go.Proofs.Bell Go.BigFrame

def oneAt (n z : Nat) (s : Int) : List Int := (List.replicate n 0).set z s
def turn1 (zs : List Int) (z : Nat) (s : Int) (k : Nat) (r : Int × Int × Int) : Int × Int × Int := (r.1, r.2.1 + 10 * (if zoneI zs k = z then s else 0), r.2.2)
theorem oneAt_getD (n z : Nat) (s : Int) (h : z < n) (j : Nat) : (oneAt n z s).getD j 0 = if j = z then s else 0 := by
  unfold oneAt
  simp only [List.getD, List.getElem?_set, List.length_replicate]
  by_cases e : z = j
  · subst e; simp [h]
  · rw [if_neg e, if_neg (fun h => e h.symm), List.getElem?_replicate]
    split <;> rfl
theorem turnT_one (zs : List Int) (n z : Nat) (s : Int) (h : z < n) : turnT zs (oneAt n z s) = turn1 zs z s := by
  funext k r
  simp only [turnT, turn1, oneAt_getD n z s h]
def mostF (ok : Nat → Bool) : Nat → Nat → Nat
  | 0, n => n
  | f + 1, n => if ok (n + 1) then mostF ok f (n + 1) else n
def okSteps (nm : ByteArray) (ps : List (Int × Int × Int)) (zs : List Int) (z : Nat) (s : Nat) : Bool := profB nm (mapK (turn1 zs z s) ps ps.length)
def mostI (nm : ByteArray) (ps : List (Int × Int × Int)) (zs : List Int) (z : Nat) : Nat := mostF (okSteps nm ps zs z) 20 0
theorem mostF_le (ok : Nat → Bool) : ∀ f n, mostF ok f n ≤ n + f
  | 0, n => Nat.le_refl _
  | f + 1, n => by unfold mostF; have := mostF_le ok f (n + 1); split <;> omega
theorem ints_oneAt (n z : Nat) (s : Int) : (List.replicate n (Value.int .i64 0)).set z (.int .i64 s) = ints (oneAt n z s) := by
  simp [ints, oneAt, List.map_set]

set_option maxRecDepth 100000 in
set_option maxHeartbeats 3200000 in
theorem l09Most_c (g : Nat) (nm : ByteArray) (sv : Value) (ps : List (Int × Int × Int)) (v : Value) (zs : List Int) (z : Nat) (w : World) (hg : g < w.heap.size) (hnm : nm.size ≤ maxLen) (c0 : w.cell? ⟨g, 0, none⟩ = some (.string nm)) (c1 : w.cell? ⟨g, 1, none⟩ = some sv) (hr : Rd w sv ps.length (trips ps)) (h : Rd w v zs.length (ints zs))
    (hl1 : 1 ≤ ps.length) (hl2 : ps.length ≤ 32) (hal : ps.all ringT = true) (hzb : zonesB zs ((ps.length : Int) - 1) = true) (hz : z < zs.length) :
    Calls Try.prog 62 #[.pointer (some ⟨g, 0, none⟩), v, .int .i64 z] w (RetB (.int .i64 (mostI nm ps zs z)) w) := by
  obtain ⟨hz1, hz8⟩ := zones_len hzb
  obtain ⟨i0, hi, hy0, hy1, hy2⟩ := info_parts info_int64
  have ht := fun (w' : World) (u : Value) (s : Nat) (hs : s ≤ 20) (hb : Below w.heap.size w w') (h2 : Rd w' u 8 (ints (oneAt 8 z s))) => l09Turned_c g nm sv ps v zs u (oneAt 8 z s) w' (below_cell hb c0) (below_cell hb c1) (hr.later hb) (h.later hb) (by simpa [oneAt] using h2) hl1 hl2 hal (fun k hk => by have := zoneI_lt zs k hz1; simp [oneAt]; omega) (fun k => by rw [oneAt_getD 8 z s (by omega)]; split <;> omega)
  have hok := fun (w' : World) (a : Nat) (u : Value) (s : Nat) (ha : a < w'.heap.size) (e0 : w'.cell? ⟨a, 0, none⟩ = some (.string nm)) (e1 : w'.cell? ⟨a, 1, none⟩ = some u) (ho : Rd w' u (mapK (turn1 zs z s) ps ps.length).length (trips (mapK (turn1 zs z s) ps ps.length))) => l05Ok_c a nm u (mapK (turn1 zs z s) ps ps.length) w' ha hnm e0 e1 ho
  have HOK := Lib.hid hok; clear hok
  simp only [turnT_one zs 8 z _ (show z < 8 by omega)] at ht
  have HT := Lib.hid ht; clear ht
  obtain ⟨hnq, aoq, capq, bq, offq, rfl, haoq, hcellq⟩ := h.open
  clear hcellq haoq h hr c0 c1 hal hzb
  go_enter Try.func62, Try.ntmps62
  go_wp2_with fail
  go_loopw [7] (fun i wr => ∃ (k : Nat), k ≤ 20 ∧ i = .int .i64 k ∧ mostF (okSteps nm ps zs z) (20 - k) k = mostI nm ps zs z ∧ Below w.heap.size w wr) (fun i _ => 20 - (intOf i).toNat)
  case atStart => exact ⟨0, Nat.zero_le _, rfl, rfl, Below.refl _ _⟩
  case round =>
    obtain ⟨k, hk, rfl, hx, hb⟩ := hrel
    by_cases hlt : k < 20
    · have e1 : (k : Int) < 20 := by omega
      have hx2 : mostF (okSteps nm ps zs z) (20 - k) k = if okSteps nm ps zs z (k + 1) then mostF (okSteps nm ps zs z) (20 - (k + 1)) (k + 1) else k := by rw [show 20 - k = (20 - (k + 1)) + 1 by omega]; rfl
      rw [hx2] at hx
      clear hx2
      have HX := Lib.hid hx; clear hx
      go_wp2_with (at_make; refine wpList_make_full _ rfl _ _ 25 rfl w.heap.size 2 i0 (.int .i64 0) 1 Try.underlying25 hi hy0 hy1 _ _ _ _ 8 rfl rfl (by omega) (by omega) ?b2 ?b3 hb.size ?_)
      case b2 => rw [hy2]; omega
      case b3 => unfold maxLen; omega
      intro w0 hown0 hg0
      rw [toList_madeCells_one] at hown0
      have hb0 : Below w.heap.size w w0 := hb.grown hg0 hb.size (fun k h => by cases h)
      have hzz : z < 8 := by omega
      have hix := ix (P := Try.prog) (T := 25) (n := 8) (cap := 8) Try.underlying25 cells_int64 has_int64 (ao := some ⟨wr.heap.size, 0, none⟩) (b := wr.heap.size) (off := 0) (fun _ => rfl) (k := z) hzz _ rfl
      rw [Nat.mul_one, Nat.zero_add] at hix
      have hc5 := World.ownsRow.cellAt hown0 z (by omega)
      rw [List.getElem?_replicate, if_pos (by omega)] at hc5
      have hf5 := World.ownsRow.frozenAt hown0 z
      have hst := (World.ownsRow.stored hown0 z (.int .i64 ((k : Int) + 1))).1
      rw [ints_oneAt, show ((k : Int) + 1) = ((k + 1 : Nat) : Int) by omega] at hst
      have hrd := Rd.of_own hst
      have hb2 : Below w.heap.size w (w0.setCell ⟨wr.heap.size, z, none⟩ (.int .i64 ((k + 1 : Nat) : Int))) := hb0.setCell hb.size _
      have htk := HT.out _ _ (k + 1) (by omega) hb2 hrd
      rw [show ((k + 1 : Nat) : Int) = (k : Int) + 1 by omega] at htk
      have hokk := fun w' a u (ha : a < w'.heap.size) e0 e1 ho => HOK.out w' a u (k + 1) ha e0 e1 ho
      have e9 : profB nm (mapK (turn1 zs z ((k + 1 : Nat) : Int)) ps ps.length) = okSteps nm ps zs z (k + 1) := rfl
      rw [e9] at hokk
      rw [show ((k + 1 : Nat) : Int) = (k : Int) + 1 by omega] at hokk hb2
      generalize mapK (turn1 zs z ((k : Int) + 1)) ps ps.length = qs at *
      have hx := HX.out
      clear HX e9 hst hrd hown0 hg0
      generalize okSteps nm ps zs z (k + 1) = c at *
      have HX := Lib.hid hx; clear hx
      have HTK := Lib.hid htk; clear htk
      have HOKK := Lib.hid hokk; clear hokk
      go_wp2_with fail
      refine HTK.out.mono ?_
      rintro _ w5 ⟨u5, rfl, o5, b5⟩
      have hb5 := hb2.trans (b5.mono hb2.size)
      obtain ⟨a5, p5, rfl⟩ := own_shape o5
      have z5 := hb5.size
      have O5 := Lib.hid o5; clear o5
      clear b5
      go_wp2_with fail
      refine (HOKK.out _ _ _ (by simp; try omega) (by simp [go_sem]) (by simp [go_sem]) ((Rd.of_own O5.out).later (by go_grown))).mono ?_
      rintro _ w6 ⟨rfl, d6⟩
      have r6 := Dr.below d6
      have b6 : Below w.heap.size w w6 := Below.trans (by go_grown) (r6.mono (by simp; try omega))
      clear d6 r6
      have hx := HX.out
      cases c
      · have hx3 : k = mostI nm ps zs z := by simpa using hx
        clear HX hx
        go_wp2
        go_returns
        exact RetB.mk (int_eq (by first | rfl | rw [hx3])) b6
      · have hx3 : mostF (okSteps nm ps zs z) (20 - (k + 1)) (k + 1) = mostI nm ps zs z := by simpa using hx
        clear HX hx
        have HX3 := Lib.hid hx3; clear hx3
        go_wp2
        go_roundw
        case rel => exact ⟨k + 1, by omega, by go_num, HX3.out, b6⟩
        case measure => simp [intOf]; omega
    · obtain rfl : k = 20 := by omega
      go_wp2
      go_returns
      exact RetB.mk (int_eq (by rw [← hx]; rfl)) hb

end Go.Proofs.Ytddkjcdnomoglaa
