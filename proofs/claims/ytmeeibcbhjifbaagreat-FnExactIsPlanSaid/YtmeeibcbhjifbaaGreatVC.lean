/- Several texts of the proofs in one: Blk, Blk2, Blk4, Blk5, Blk3, Blk6. -/
import Derived.Test.YtmeeibcbhjifbaaGreatGF
import Derived.Test.YtmeeibcbhjifbaaGreatGG
import Derived.Test.YtmeeibcbhjifbaaGreatGoals2
import Derived.Test.YtmeeibcbhjifbaaGreatRaw
import Derived.Test.YtmeeibcbhjifbaaGreatRgL
import Derived.Test.YtmeeibcbhjifbaaGreatRoom
import Derived.Test.YtmeeibcbhjifbaaGreatVA
import Derived.Test.YtmeeibcbhjifbaaGreatVB
import Derived.Test.YtmeeibcbhjifbaaGreatVD
import Derived.Deep.RegionHeld3
/- The first partial that shows that there is no plan: plain. -/
namespace Go.Proofs.YtmeeibcbhjifbaaGreat
set_option linter.unusedVariables false
open Go.RowKit Go.Proofs.Bell Go.BigFrame

def minI (a b : Int) : Int := if a < b then a else b
def limI (nm : ByteArray) (ps : List (Int × Int × Int)) (zs : List Int) (most : Int) : List Int := (roomK nm ps zs zs.length).map (fun x => minI most x)
theorem limI_len (nm : ByteArray) (ps : List (Int × Int × Int)) (zs : List Int) (most : Int) : (limI nm ps zs most).length = zs.length := by simp [limI, roomK_len]
theorem roomK_at (nm : ByteArray) (ps : List (Int × Int × Int)) (zs : List Int) : ∀ n k, k < n → (roomK nm ps zs n).getD k 0 = ((mostI nm ps zs k : Nat) : Int)
  | 0, _, h => absurd h (Nat.not_lt_zero _)
  | n + 1, k, h => by
    have hl := roomK_len nm ps zs n
    rw [roomK]
    rcases Nat.lt_or_ge k n with h1 | h1
    · rw [← roomK_at nm ps zs n k h1]
      simp [List.getD, List.getElem?_append_left (show k < (roomK nm ps zs n).length by omega)]
    · obtain rfl : k = n := by omega
      simp [List.getD, List.getElem?_append_right (show (roomK nm ps zs k).length ≤ k by omega), hl]
theorem limI_at (nm : ByteArray) (ps : List (Int × Int × Int)) (zs : List Int) (most : Int) (k : Nat) (hk : k < zs.length) : (limI nm ps zs most).getD k 0 = minI most ((mostI nm ps zs k : Nat) : Int) := by
  have h := roomK_at nm ps zs zs.length k hk
  have hl := roomK_len nm ps zs zs.length
  unfold limI
  simp only [List.getD, List.getElem?_map] at h ⊢
  rw [List.getElem?_eq_getElem (by omega)] at h ⊢
  simp at h ⊢
  rw [h]
theorem limI_bd (nm : ByteArray) (ps : List (Int × Int × Int)) (zs : List Int) (most : Int) (hm : 0 ≤ most) (k : Nat) : 0 ≤ (limI nm ps zs most).getD k 0 ∧ (limI nm ps zs most).getD k 0 ≤ 20 := by
  rcases Nat.lt_or_ge k zs.length with h | h
  · rw [limI_at nm ps zs most k h]
    have := mostF_le (okSteps nm ps zs k) 20 0
    unfold minI mostI
    split <;> omega
  · have : (limI nm ps zs most).getD k 0 = 0 := by
      simp only [List.getD]
      rw [List.getElem?_eq_none (by rw [limI_len]; exact h)]; rfl
    omega
theorem mostF_ok (ok : Nat → Bool) : ∀ f n, mostF ok f n = n ∨ ok (mostF ok f n) = true
  | 0, n => .inl rfl
  | f + 1, n => by
    unfold mostF
    split
    · rename_i h
      rcases mostF_ok ok f (n + 1) with e | e
      · rw [e]; exact .inr h
      · exact .inr e
    · exact .inl rfl

/-- fewer steps than are told leave every ring well formed -/
theorem lim_ring {nm : ByteArray} {ps : List (Int × Int × Int)} {zs : List Int} {most : Int} (hm : 0 ≤ most) (hz1 : 1 ≤ zs.length) (hal : ps.all ringT = true) : (mapK (turnT zs (limI nm ps zs most)) ps ps.length).all ringT = true := by
  rw [List.all_eq_true]
  intro r hr
  obtain ⟨k, hk, rfl⟩ := List.getElem_of_mem hr
  rw [mapK_len] at hk
  have e : (mapK (turnT zs (limI nm ps zs most)) ps ps.length)[k] = turnT zs (limI nm ps zs most) k (rg ps k) := by
    rw [← rg_eq, mapK_rg _ _ _ _ hk]
  rw [e]
  have hz := zoneI_lt zs k hz1
  have hr0 := ringT_t (all_at hal hk)
  have hb := limI_bd nm ps zs most hm (zoneI zs k)
  have hl := limI_at nm ps zs most (zoneI zs k) hz
  simp only [turnT]
  generalize (limI nm ps zs most).getD (zoneI zs k) 0 = s at *
  have hs : s ≤ ((mostI nm ps zs (zoneI zs k) : Nat) : Int) := by rw [hl]; unfold minI; split <;> omega
  have hin : (rg ps k).2.1 + 10 * s ≤ (rg ps k).1 - 100 := by
    rcases mostF_ok (okSteps nm ps zs (zoneI zs k)) 20 0 with e0 | e0
    · have : mostI nm ps zs (zoneI zs k) = 0 := e0
      rw [this] at hs
      omega
    · have hn : mostF (okSteps nm ps zs (zoneI zs k)) 20 0 = mostI nm ps zs (zoneI zs k) := rfl
      rw [hn] at e0
      generalize mostI nm ps zs (zoneI zs k) = n at *
      unfold okSteps at e0
      obtain ⟨_, _, ha, _⟩ := profB_t e0
      have h1 := ringT_t (all_at ha (show k < (mapK (turn1 zs (zoneI zs k) (n : Int)) ps ps.length).length by rw [mapK_len]; exact hk))
      rw [mapK_rg _ _ _ _ hk] at h1
      simp only [turn1, if_true] at h1
      omega
  simp only [ringT, ringB, inB_mk (show 500 ≤ (rg ps k).1 ∧ (rg ps k).1 ≤ 150000 by omega), inB_mk (show 0 ≤ (rg ps k).2.1 + 10 * s ∧ (rg ps k).2.1 + 10 * s ≤ (rg ps k).1 - 100 by omega), inB_mk (show 10 ≤ (rg ps k).2.2 ∧ (rg ps k).2.2 ≤ 300000 by omega), Bool.and_true]

/-- padded sums turn alike -/
theorem turnT_congr {zs a b : List Int} (h : ∀ j, a.getD j 0 = b.getD j 0) : turnT zs a = turnT zs b := by
  funext k r
  simp only [turnT, h]
theorem turn_nil (zs : List Int) (ps : List (Int × Int × Int)) : ∀ n, n ≤ ps.length → mapK (turnT zs []) ps n = ps.take n
  | 0, _ => by simp [mapK]
  | n + 1, h => by
    rw [mapK, turn_nil zs ps n (by omega), List.take_succ_eq_append_getElem (by omega)]
    congr 1
    rw [← rg_eq (show n < ps.length by omega)]
    simp [turnT]
theorem turn_none (zs : List Int) (ps : List (Int × Int × Int)) : mapK (turnT zs []) ps ps.length = ps := by rw [turn_nil zs ps _ (Nat.le_refl _), List.take_length]

def blkF (ls bf af : List Int) (tol : Int) : Nat → Nat → Int × Int × Int
  | 0, _ => (0, 0, 0)
  | f + 1, k => if lowB (ls.getD k 0) (bf.getD k 0) tol then ((k : Int) + 1, -1, 0) else if highB (ls.getD k 0) (af.getD k 0) tol then ((k : Int) + 1, 1, 0) else blkF ls bf af tol f (k + 1)
def goalAsk (zs : List Int) (ws : List (List Int)) (bs : List Int) (nm : ByteArray) (ps : List (Int × Int × Int)) (a b c d f t m : Int) : Int := if goalB a b c d f t m then modAsk zs ws bs nm ps else 1
def blkI (zs : List Int) (ws : List (List Int)) (bs : List Int) (nm : ByteArray) (ps : List (Int × Int × Int)) (a b c d f t m : Int) : Int × Int × Int :=
  if goalAsk zs ws bs nm ps a b c d f t m = 0 then blkF [a, b, c, d, f] (rawL ps zs ws bs) (rawL (mapK (turnT zs (limI nm ps zs m)) ps ps.length) zs ws bs) t 5 0 else (0, 0, goalAsk zs ws bs nm ps a b c d f t m)
theorem goalAsk_ok {zs : List Int} {ws : List (List Int)} {bs : List Int} {nm : ByteArray} {ps : List (Int × Int × Int)} {a b c d f t m : Int} (h : goalAsk zs ws bs nm ps a b c d f t m = 0) : goalB a b c d f t m = true ∧ modAsk zs ws bs nm ps = 0 := by
  unfold goalAsk at h
  split at h
  · rename_i h1; exact ⟨h1, h⟩
  · cases h
theorem goalB_t {a b c d f t m : Int} (h : goalB a b c d f t m = true) : soundB a b c d f = true ∧ 0 ≤ t ∧ t ≤ 20000 ∧ 0 ≤ m := by
  simp only [goalB, Bool.and_eq_true] at h
  have h1 := inB_t h.1.2
  have h2 := inB_t h.2
  exact ⟨h.1.1, h1.1, h1.2, h2.1⟩

end Go.Proofs.YtmeeibcbhjifbaaGreat

/- The tests ahead of a search, and the greatest numbers of steps. -/
namespace Go.Proofs.YtmeeibcbhjifbaaGreat
set_option linter.unusedVariables false
open Go.RowKit Go.Proofs.Bell Go.BigFrame

set_option maxRecDepth 100000 in
set_option maxHeartbeats 1600000 in
theorem aimed_c (zv wv bv : Value) (zs : List Int) (ws : List (List Int)) (bs : List Int) (nm : ByteArray) (sv : Value) (ps : List (Int × Int × Int)) (a b c d f t m : Int) (w : World) (hz : Rd w zv zs.length (ints zs)) (hw : RdSS w wv ws) (hb : Rd w bv bs.length (ints bs)) (hnm : nm.size ≤ maxLen) (hr : Rd w sv ps.length (trips ps)) :
    Calls Tryz.prog 43 #[.agg #[zv, wv, bv], .agg #[.string nm, sv], .agg #[.int .i64 a, .int .i64 b, .int .i64 c, .int .i64 d, .int .i64 f, .int .i64 t, .int .i64 m]] w (RetB (.int .i64 (goalAsk zs ws bs nm ps a b c d f t m)) w) := by
  have hg := fun w' => implValidGoal_c a b c d f t m w'
  have hm := fun w' (hx : Below w.heap.size w w') => modelled_c zv wv bv zs ws bs nm sv ps w' (hz.later hx) (hw.later hx) (hb.later hx) hnm (hr.later hx)
  unfold goalAsk
  generalize modAsk zs ws bs nm ps = code at *
  have HM := Lib.hid hm; clear hm
  clear hz hw hb hr
  cases t0 : goalB a b c d f t m <;> rw [t0] at hg
  · have HG := Lib.hid hg; clear hg
    go_enter Tryz.func43, Tryz.ntmps43
    have b0 : Below w.heap.size w w := Below.refl _ _
    have z0 : w.heap.size ≤ w.heap.size := Nat.le_refl _
    go_wp2_with fail
    refine (HG.out _).mono ?_
    rintro _ w1 ⟨rfl, r1⟩
    have s1 : Below w.heap.size w w1 := Below.trans (by go_grown) (r1.mono (by simp; try omega))
    have b1 := b0.trans (s1.mono z0)
    have z1 := b1.size
    have y1 := s1.size
    have c0_0_1 := below_cell r1 (p := ⟨w.heap.size, 0, none⟩) (v := zv) (by simp [go_sem])
    have c0_1_1 := below_cell r1 (p := ⟨w.heap.size, 1, none⟩) (v := wv) (by simp [go_sem])
    have c0_2_1 := below_cell r1 (p := ⟨w.heap.size, 2, none⟩) (v := bv) (by simp [go_sem])
    have c1_0_1 := below_cell r1 (p := ⟨w.heap.size + 1, 0, none⟩) (v := .string nm) (by simp [go_sem])
    have c1_1_1 := below_cell r1 (p := ⟨w.heap.size + 1, 1, none⟩) (v := sv) (by simp [go_sem])
    have c2_0_1 := below_cell r1 (p := ⟨w.heap.size + 1 + 1, 0, none⟩) (v := .int .i64 a) (by simp [go_sem])
    have c2_1_1 := below_cell r1 (p := ⟨w.heap.size + 1 + 1, 1, none⟩) (v := .int .i64 b) (by simp [go_sem])
    have c2_2_1 := below_cell r1 (p := ⟨w.heap.size + 1 + 1, 2, none⟩) (v := .int .i64 c) (by simp [go_sem])
    have c2_3_1 := below_cell r1 (p := ⟨w.heap.size + 1 + 1, 3, none⟩) (v := .int .i64 d) (by simp [go_sem])
    have c2_4_1 := below_cell r1 (p := ⟨w.heap.size + 1 + 1, 4, none⟩) (v := .int .i64 f) (by simp [go_sem])
    have c2_5_1 := below_cell r1 (p := ⟨w.heap.size + 1 + 1, 5, none⟩) (v := .int .i64 t) (by simp [go_sem])
    have c2_6_1 := below_cell r1 (p := ⟨w.heap.size + 1 + 1, 6, none⟩) (v := .int .i64 m) (by simp [go_sem])
    clear r1
    go_wp2
    go_returns
    exact RetB.mk (rfl) b1
  · have HG := Lib.hid hg; clear hg
    go_enter Tryz.func43, Tryz.ntmps43
    have b0 : Below w.heap.size w w := Below.refl _ _
    have z0 : w.heap.size ≤ w.heap.size := Nat.le_refl _
    go_wp2_with fail
    refine (HG.out _).mono ?_
    rintro _ w1 ⟨rfl, r1⟩
    have s1 : Below w.heap.size w w1 := Below.trans (by go_grown) (r1.mono (by simp; try omega))
    have b1 := b0.trans (s1.mono z0)
    have z1 := b1.size
    have y1 := s1.size
    have c0_0_1 := below_cell r1 (p := ⟨w.heap.size, 0, none⟩) (v := zv) (by simp [go_sem])
    have c0_1_1 := below_cell r1 (p := ⟨w.heap.size, 1, none⟩) (v := wv) (by simp [go_sem])
    have c0_2_1 := below_cell r1 (p := ⟨w.heap.size, 2, none⟩) (v := bv) (by simp [go_sem])
    have c1_0_1 := below_cell r1 (p := ⟨w.heap.size + 1, 0, none⟩) (v := .string nm) (by simp [go_sem])
    have c1_1_1 := below_cell r1 (p := ⟨w.heap.size + 1, 1, none⟩) (v := sv) (by simp [go_sem])
    have c2_0_1 := below_cell r1 (p := ⟨w.heap.size + 1 + 1, 0, none⟩) (v := .int .i64 a) (by simp [go_sem])
    have c2_1_1 := below_cell r1 (p := ⟨w.heap.size + 1 + 1, 1, none⟩) (v := .int .i64 b) (by simp [go_sem])
    have c2_2_1 := below_cell r1 (p := ⟨w.heap.size + 1 + 1, 2, none⟩) (v := .int .i64 c) (by simp [go_sem])
    have c2_3_1 := below_cell r1 (p := ⟨w.heap.size + 1 + 1, 3, none⟩) (v := .int .i64 d) (by simp [go_sem])
    have c2_4_1 := below_cell r1 (p := ⟨w.heap.size + 1 + 1, 4, none⟩) (v := .int .i64 f) (by simp [go_sem])
    have c2_5_1 := below_cell r1 (p := ⟨w.heap.size + 1 + 1, 5, none⟩) (v := .int .i64 t) (by simp [go_sem])
    have c2_6_1 := below_cell r1 (p := ⟨w.heap.size + 1 + 1, 6, none⟩) (v := .int .i64 m) (by simp [go_sem])
    clear r1
    go_wp2_with fail
    refine (HM.out _ b1).mono ?_
    rintro _ w2 ⟨rfl, r2⟩
    have s2 := r2
    have b2 := b1.trans (s2.mono z1)
    have z2 := b2.size
    have y2 := s2.size
    have c0_0_2 := below_cell s2 c0_0_1; clear c0_0_1
    have c0_1_2 := below_cell s2 c0_1_1; clear c0_1_1
    have c0_2_2 := below_cell s2 c0_2_1; clear c0_2_1
    have c1_0_2 := below_cell s2 c1_0_1; clear c1_0_1
    have c1_1_2 := below_cell s2 c1_1_1; clear c1_1_1
    have c2_0_2 := below_cell s2 c2_0_1; clear c2_0_1
    have c2_1_2 := below_cell s2 c2_1_1; clear c2_1_1
    have c2_2_2 := below_cell s2 c2_2_1; clear c2_2_1
    have c2_3_2 := below_cell s2 c2_3_1; clear c2_3_1
    have c2_4_2 := below_cell s2 c2_4_1; clear c2_4_1
    have c2_5_2 := below_cell s2 c2_5_1; clear c2_5_1
    have c2_6_2 := below_cell s2 c2_6_1; clear c2_6_1
    clear r2
    go_wp2
    go_returns
    exact RetB.mk (rfl) b2

set_option maxRecDepth 100000 in
set_option maxHeartbeats 1600000 in
theorem l10Ask_c (g g' g'' : Nat) (zv wv bv : Value) (zs : List Int) (ws : List (List Int)) (bs : List Int) (nm : ByteArray) (sv : Value) (ps : List (Int × Int × Int)) (a b c d f t m : Int) (w : World) (c0 : w.cell? ⟨g, 0, none⟩ = some zv) (c1 : w.cell? ⟨g, 1, none⟩ = some wv) (c2 : w.cell? ⟨g, 2, none⟩ = some bv) (d0 : w.cell? ⟨g', 0, none⟩ = some (.string nm)) (d1 : w.cell? ⟨g', 1, none⟩ = some sv)
    (hG : H6 g'' a b c d f t w) (h6 : w.cell? ⟨g'', 6, none⟩ = some (.int .i64 m)) (hz : Rd w zv zs.length (ints zs)) (hw : RdSS w wv ws) (hb : Rd w bv bs.length (ints bs)) (hnm : nm.size ≤ maxLen) (hr : Rd w sv ps.length (trips ps)) :
    Calls Tryz.prog 35 #[.pointer (some ⟨g, 0, none⟩), .pointer (some ⟨g', 0, none⟩), .pointer (some ⟨g'', 0, none⟩)] w (RetB (.int .i64 (goalAsk zs ws bs nm ps a b c d f t m)) w) := by
  have hg := fun w' (hx : Below w.heap.size w w') => l10Goal_c a b c d f t m g'' w' (below_cell hx hG.p0) (below_cell hx hG.p1) (below_cell hx hG.p2) (below_cell hx hG.p3) (below_cell hx hG.p4) (below_cell hx hG.p5) (below_cell hx h6)
  have hm := fun w' (hx : Below w.heap.size w w') => l08Ask_c g g' zv wv bv zs ws bs nm sv ps w' (below_cell hx c0) (below_cell hx c1) (below_cell hx c2) (below_cell hx d0) (below_cell hx d1) (hz.later hx) (hw.later hx) (hb.later hx) hnm (hr.later hx)
  unfold goalAsk
  generalize modAsk zs ws bs nm ps = code at *
  have HM := Lib.hid hm; clear hm
  clear hz hw hb hr c0 c1 c2 d0 d1 hG h6
  cases t0 : goalB a b c d f t m <;> rw [t0] at hg
  · have HG := Lib.hid hg; clear hg
    go_enter Tryz.func35, Tryz.ntmps35
    have b0 : Below w.heap.size w w := Below.refl _ _
    have z0 : w.heap.size ≤ w.heap.size := Nat.le_refl _
    go_wp2_with fail
    refine (HG.out _ b0).mono ?_
    rintro _ w1 ⟨rfl, r1⟩
    have s1 := r1
    have b1 := b0.trans (s1.mono z0)
    have z1 := b1.size
    have y1 := s1.size
    clear r1
    go_wp2
    go_returns
    exact RetB.mk (rfl) b1
  · have HG := Lib.hid hg; clear hg
    go_enter Tryz.func35, Tryz.ntmps35
    have b0 : Below w.heap.size w w := Below.refl _ _
    have z0 : w.heap.size ≤ w.heap.size := Nat.le_refl _
    go_wp2_with fail
    refine (HG.out _ b0).mono ?_
    rintro _ w1 ⟨rfl, r1⟩
    have s1 := r1
    have b1 := b0.trans (s1.mono z0)
    have z1 := b1.size
    have y1 := s1.size
    clear r1
    go_wp2_with fail
    refine (HM.out _ b1).mono ?_
    rintro _ w2 ⟨rfl, r2⟩
    have s2 := r2
    have b2 := b1.trans (s2.mono z1)
    have z2 := b2.size
    have y2 := s2.size
    clear r2
    go_wp2
    go_returns
    exact RetB.mk (rfl) b2

theorem minI_min (m x : Int) : minI m x = min x m := by unfold minI; split <;> omega
/-- the first `k` numbers changed -/
def mixI (f : Int → Int) (l : List Int) (k : Nat) : List Int := (l.take k).map f ++ l.drop k
theorem mixI_len (f : Int → Int) (l : List Int) (k : Nat) : (mixI f l k).length = l.length := by simp [mixI]; omega
theorem mixI_zero (f : Int → Int) (l : List Int) : mixI f l 0 = l := by simp [mixI]
theorem mixI_end (f : Int → Int) (l : List Int) : mixI f l l.length = l.map f := by simp [mixI]
theorem mixI_at (f : Int → Int) (l : List Int) {k : Nat} (h : k < l.length) : (mixI f l k).getD k 0 = l.getD k 0 := by
  unfold mixI
  simp only [List.getD]
  rw [List.getElem?_append_right (by simp; omega), List.getElem?_drop]
  congr 2
  simp; omega
theorem mixI_set (f : Int → Int) (l : List Int) {k : Nat} (h : k < l.length) : (mixI f l k).set k (f (l.getD k 0)) = mixI f l (k + 1) := by
  have h1 : l.drop k = l.getD k 0 :: l.drop (k + 1) := by rw [getD_eq h]; exact List.drop_eq_getElem_cons h
  have h2 : l.take (k + 1) = l.take k ++ [l.getD k 0] := by rw [getD_eq h]; exact List.take_succ_eq_append_getElem h
  rw [mixI, List.set_append_right _ _ (by simp; omega), h1, mixI, h2]
  have : k - ((l.take k).map f).length = 0 := by simp; omega
  rw [this, List.set_cons_zero]
  simp

end Go.Proofs.YtmeeibcbhjifbaaGreat

/- The reference's search that has not begun. -/
namespace Go.Proofs.YtmeeibcbhjifbaaGreat
set_option linter.unusedVariables false
open Go.RowKit Go.Proofs.Bell Go.BigFrame

/-- a search's box -/
structure NewX (x g g' : Nat) (u st : Value) (w' : World) : Prop where
  x0 : w'.cell? ⟨x, 0, none⟩ = some (.pointer (some ⟨g, 0, none⟩))
  x1 : w'.cell? ⟨x, 1, none⟩ = some (.pointer (some ⟨g', 0, none⟩))
  x3 : w'.cell? ⟨x, 3, none⟩ = some u
  x4 : w'.cell? ⟨x, 4, none⟩ = some st
  xf : ∀ j, w'.frozen? ⟨x, j, none⟩ = false
theorem NewX.lt {x g g' : Nat} {u st : Value} {w : World} (h : NewX x g g' u st w) : x < w.heap.size := World.block_lt_of_cell? _ _ h.x0
theorem NewX.only {S : Nat → Prop} {x g g' : Nat} {u st : Value} {w w' : World} (h : NewX x g g' u st w) (ho : Only S w w') (hn : ¬ S x) : NewX x g g' u st w' :=
  ⟨cell_only ho h.x0 hn, cell_only ho h.x1 hn, cell_only ho h.x3 hn, cell_only ho h.x4 hn, fun j => (frozen_only ho (p := ⟨x, j, none⟩) h.lt hn).trans (h.xf j)⟩
theorem NewX.later {x g g' : Nat} {u st : Value} {w w' : World} (h : NewX x g g' u st w) (hb : Below w.heap.size w w') : NewX x g g' u st w' := h.only (Only.of_below (S := fun b => w.heap.size ≤ b) hb) (by have := h.lt; omega)
theorem NewX.room {x g g' : Nat} {u st : Value} {w : World} (h : NewX x g g' u st w) (v : Value) : NewX x g g' v st (w.setCell ⟨x, 3, none⟩ v) :=
  ⟨by rw [World.cell?_setCell_other _ _ _ _ (by simp)]; exact h.x0, by rw [World.cell?_setCell_other _ _ _ _ (by simp)]; exact h.x1, World.cell?_setCell_same _ _ _ h.x3, by rw [World.cell?_setCell_other _ _ _ _ (by simp)]; exact h.x4, fun j => by rw [World.frozen?_setCell]; exact h.xf j⟩
theorem NewX.steps {x g g' : Nat} {u st : Value} {w : World} (h : NewX x g g' u st w) (v : Value) : NewX x g g' u v (w.setCell ⟨x, 4, none⟩ v) :=
  ⟨by rw [World.cell?_setCell_other _ _ _ _ (by simp)]; exact h.x0, by rw [World.cell?_setCell_other _ _ _ _ (by simp)]; exact h.x1, by rw [World.cell?_setCell_other _ _ _ _ (by simp)]; exact h.x3, World.cell?_setCell_same _ _ _ h.x4, fun j => by rw [World.frozen?_setCell]; exact h.xf j⟩

def RetNew (g g' : Nat) (L : List Int) (w : World) (e : Ending) (w' : World) : Prop :=
  ∃ x u, e = .returned (.pointer (some ⟨x, 0, none⟩)) ∧ w.heap.size ≤ x ∧ NewX x g g' u (.slice none 0 0) w' ∧ OwnI (x + 1) w' u L ∧ Below w.heap.size w w'

theorem take_more (L : List Int) {k : Nat} (h : k < L.length) : L.take k ++ [L.getD k 0] = L.take (k + 1) := by rw [getD_eq h]; exact (List.take_succ_eq_append_getElem h).symm

/-- what the region asks of a world -/
structure SNew (x g g' g'' : Nat) (u zv : Value) (m : Int) (w' : World) : Prop where
  n : NewX x g g' u (.slice none 0 0) w'
  c0 : w'.cell? ⟨g, 0, none⟩ = some zv
  g6 : w'.cell? ⟨g'', 6, none⟩ = some (.int .i64 m)

end Go.Proofs.YtmeeibcbhjifbaaGreat

/- The partials after some steps of a search. -/
namespace Go.Proofs.YtmeeibcbhjifbaaGreat
set_option linter.unusedVariables false
open Go.RowKit Go.Proofs.Bell Go.BigFrame

def padK (L : List Int) (k : Nat) : List Int := L.take k ++ List.replicate (8 - k) 0
theorem padK_len (L : List Int) {k : Nat} (h : k ≤ L.length) (h8 : L.length ≤ 8) : (padK L k).length = 8 := by simp [padK]; omega
theorem padK_zero (L : List Int) : padK L 0 = List.replicate 8 0 := by simp [padK]
theorem padK_set (L : List Int) {k : Nat} (h : k < L.length) (h8 : L.length ≤ 8) : (padK L k).set k (L.getD k 0) = padK L (k + 1) := by
  have h1 : List.replicate (8 - k) (0 : Int) = 0 :: List.replicate (8 - (k + 1)) 0 := by rw [show 8 - k = (8 - (k + 1)) + 1 by omega]; rfl
  rw [padK, List.set_append_right _ _ (by simp; omega), h1, show k - (L.take k).length = 0 by simp; omega, List.set_cons_zero, padK, ← take_more L h, List.append_assoc]
  rfl
theorem padK_at (L : List Int) (h8 : L.length ≤ 8) (j : Nat) : (padK L L.length).getD j 0 = L.getD j 0 := by
  simp only [padK, List.take_length, List.getD]
  rcases Nat.lt_or_ge j L.length with h | h
  · rw [List.getElem?_append_left h]
  · rw [List.getElem?_append_right h, List.getElem?_eq_none h, List.getElem?_replicate]
    split <;> rfl

theorem bdrew (w : World) : Below w.heap.size w w.drew := below_drewN (Below.refl _ _) 1
structure SRaw (x g g' : Nat) (u st zv : Value) (w' : World) : Prop where
  n : NewX x g g' u st w'
  c0 : w'.cell? ⟨g, 0, none⟩ = some zv
theorem SRaw.later {x g g' : Nat} {u st zv : Value} {w w' : World} (h : SRaw x g g' u st zv w) (hb : Below w.heap.size w w') : SRaw x g g' u st zv w' := ⟨h.n.later hb, below_cell hb h.c0⟩

end Go.Proofs.YtmeeibcbhjifbaaGreat

/- The first partial that shows that there is no plan: the program. -/
namespace Go.Proofs.YtmeeibcbhjifbaaGreat
set_option linter.unusedVariables false
open Go.RowKit Go.Proofs.Bell Go.BigFrame

/-- the boxes of a model, a profile and a goal -/
structure H3 (g : Nat) (zv wv bv : Value) (nm : ByteArray) (sv : Value) (a b c d f t m : Int) (w' : World) : Prop where
  m0 : w'.cell? ⟨g, 0, none⟩ = some zv
  m1 : w'.cell? ⟨g, 1, none⟩ = some wv
  m2 : w'.cell? ⟨g, 2, none⟩ = some bv
  n0 : w'.cell? ⟨g + 1, 0, none⟩ = some (.string nm)
  n1 : w'.cell? ⟨g + 1, 1, none⟩ = some sv
  h : H6 (g + 1 + 1) a b c d f t w'
  p6 : w'.cell? ⟨g + 1 + 1, 6, none⟩ = some (.int .i64 m)
theorem H3.later {g : Nat} {zv wv bv : Value} {nm : ByteArray} {sv : Value} {a b c d f t m : Int} {w w' : World} (h : H3 g zv wv bv nm sv a b c d f t m w) (hb : Below w.heap.size w w') : H3 g zv wv bv nm sv a b c d f t m w' :=
  ⟨below_cell hb h.m0, below_cell hb h.m1, below_cell hb h.m2, below_cell hb h.n0, below_cell hb h.n1, h.h.later hb, below_cell hb h.p6⟩
/-- a goal's box and one number of a list -/
structure H8 (g : Nat) (a b c d f t m : Int) (l k : Nat) (x : Int) (w' : World) : Prop where
  h : H6 g a b c d f t w'
  p6 : w'.cell? ⟨g, 6, none⟩ = some (.int .i64 m)
  e : w'.cell? ⟨l, k, none⟩ = some (.int .i64 x)
theorem H8.later {g : Nat} {a b c d f t m : Int} {l k : Nat} {x : Int} {w w' : World} (h : H8 g a b c d f t m l k x w) (hb : Below w.heap.size w w') : H8 g a b c d f t m l k x w' :=
  ⟨h.h.later hb, below_cell hb h.p6, below_cell hb h.e⟩

theorem rawL_len (ps : List (Int × Int × Int)) (zs : List Int) (ws : List (List Int)) (bs : List Int) : (rawL ps zs ws bs).length = 5 := rawK_len _ _ _ _ 5
theorem sound_at {a b c d f : Int} (h : soundB a b c d f = true) (k : Nat) (hk : k < 5) : 1 ≤ [a, b, c, d, f].getD k 0 ∧ [a, b, c, d, f].getD k 0 ≤ 20000000 := by
  have h1 := List.all_eq_true.1 h k (List.mem_range.2 hk)
  simp only [riseAt, Bool.and_eq_true] at h1
  have := inB_t h1.1
  omega

end Go.Proofs.YtmeeibcbhjifbaaGreat

/- The first partial that shows that there is no plan: the reference. -/
namespace Go.Proofs.YtmeeibcbhjifbaaGreat
set_option linter.unusedVariables false
open Go.RowKit Go.Proofs.Bell Go.BigFrame

end Go.Proofs.YtmeeibcbhjifbaaGreat

