/- Several texts of the proofs in one: Blk, Blk2, Blk4, Blk5, Blk3, Blk6. -/
import Derived.Test.YtmeeibcbhjifbaaGF
import Derived.Test.YtmeeibcbhjifbaaGG
import Derived.Test.YtmeeibcbhjifbaaGoals2
import Derived.Test.YtmeeibcbhjifbaaRaw
import Derived.Test.YtmeeibcbhjifbaaRgL
import Derived.Test.YtmeeibcbhjifbaaRoom
import Derived.Test.YtmeeibcbhjifbaaVA
import Derived.Test.YtmeeibcbhjifbaaVB
import Derived.Test.YtmeeibcbhjifbaaVD
import Derived.Deep.RegionHeld3
/- The first partial that shows that there is no plan: plain. -/
namespace Go.Proofs.Ytmeeibcbhjifbaa
set_option linter.unusedVariables false
open Go.RowKit Go.Proofs.Bell Go.BigFrame

def minI (a b : Int) : Int := if a < b then a else b
def limI (nm : ByteArray) (ps : List (Int × Int × Int)) (zs : List Int) (most : Int) : List Int := (roomK nm ps zs zs.length).map (fun x => minI most x)
theorem limI_len (nm : ByteArray) (ps : List (Int × Int × Int)) (zs : List Int) (most : Int) : (limI nm ps zs most).length = zs.length := by simp [limI, roomK_len]
theorem roomK_at (nm : ByteArray) (ps : List (Int × Int × Int)) (zs : List Int) : ∀ n k, k < n → (roomK nm ps zs n).getD k 0 = ((mostI nm ps zs k : Nat) : Int)
  | 0, _, h => absurd h (Nat.not_lt_zero _)
  | n + 1, k, h => by
    have hl := roomK_len nm ps zs n
    rw [roomK]
    rcases Nat.lt_or_ge k n with h1 | h1
    · rw [← roomK_at nm ps zs n k h1]
      simp [List.getD, List.getElem?_append_left (show k < (roomK nm ps zs n).length by omega)]
    · obtain rfl : k = n := by omega
      simp [List.getD, List.getElem?_append_right (show (roomK nm ps zs k).length ≤ k by omega), hl]
theorem limI_at (nm : ByteArray) (ps : List (Int × Int × Int)) (zs : List Int) (most : Int) (k : Nat) (hk : k < zs.length) : (limI nm ps zs most).getD k 0 = minI most ((mostI nm ps zs k : Nat) : Int) := by
  have h := roomK_at nm ps zs zs.length k hk
  have hl := roomK_len nm ps zs zs.length
  unfold limI
  simp only [List.getD, List.getElem?_map] at h ⊢
  rw [List.getElem?_eq_getElem (by omega)] at h ⊢
  simp at h ⊢
  rw [h]
theorem limI_bd (nm : ByteArray) (ps : List (Int × Int × Int)) (zs : List Int) (most : Int) (hm : 0 ≤ most) (k : Nat) : 0 ≤ (limI nm ps zs most).getD k 0 ∧ (limI nm ps zs most).getD k 0 ≤ 20 := by
  rcases Nat.lt_or_ge k zs.length with h | h
  · rw [limI_at nm ps zs most k h]
    have := mostF_le (okSteps nm ps zs k) 20 0
    unfold minI mostI
    split <;> omega
  · have : (limI nm ps zs most).getD k 0 = 0 := by
      simp only [List.getD]
      rw [List.getElem?_eq_none (by rw [limI_len]; exact h)]; rfl
    omega
theorem mostF_ok (ok : Nat → Bool) : ∀ f n, mostF ok f n = n ∨ ok (mostF ok f n) = true
  | 0, n => .inl rfl
  | f + 1, n => by
    unfold mostF
    split
    · rename_i h
      rcases mostF_ok ok f (n + 1) with e | e
      · rw [e]; exact .inr h
      · exact .inr e
    · exact .inl rfl

/-- fewer steps than are told leave every ring well formed -/
theorem lim_ring {nm : ByteArray} {ps : List (Int × Int × Int)} {zs : List Int} {most : Int} (hm : 0 ≤ most) (hz1 : 1 ≤ zs.length) (hal : ps.all ringT = true) : (mapK (turnT zs (limI nm ps zs most)) ps ps.length).all ringT = true := by
  rw [List.all_eq_true]
  intro r hr
  obtain ⟨k, hk, rfl⟩ := List.getElem_of_mem hr
  rw [mapK_len] at hk
  have e : (mapK (turnT zs (limI nm ps zs most)) ps ps.length)[k] = turnT zs (limI nm ps zs most) k (rg ps k) := by
    rw [← rg_eq, mapK_rg _ _ _ _ hk]
  rw [e]
  have hz := zoneI_lt zs k hz1
  have hr0 := ringT_t (all_at hal hk)
  have hb := limI_bd nm ps zs most hm (zoneI zs k)
  have hl := limI_at nm ps zs most (zoneI zs k) hz
  simp only [turnT]
  generalize (limI nm ps zs most).getD (zoneI zs k) 0 = s at *
  have hs : s ≤ ((mostI nm ps zs (zoneI zs k) : Nat) : Int) := by rw [hl]; unfold minI; split <;> omega
  have hin : (rg ps k).2.1 + 10 * s ≤ (rg ps k).1 - 100 := by
    rcases mostF_ok (okSteps nm ps zs (zoneI zs k)) 20 0 with e0 | e0
    · have : mostI nm ps zs (zoneI zs k) = 0 := e0
      rw [this] at hs
      omega
    · have hn : mostF (okSteps nm ps zs (zoneI zs k)) 20 0 = mostI nm ps zs (zoneI zs k) := rfl
      rw [hn] at e0
      generalize mostI nm ps zs (zoneI zs k) = n at *
      unfold okSteps at e0
      obtain ⟨_, _, ha, _⟩ := profB_t e0
      have h1 := ringT_t (all_at ha (show k < (mapK (turn1 zs (zoneI zs k) (n : Int)) ps ps.length).length by rw [mapK_len]; exact hk))
      rw [mapK_rg _ _ _ _ hk] at h1
      simp only [turn1, if_true] at h1
      omega
  simp only [ringT, ringB, inB_mk (show 500 ≤ (rg ps k).1 ∧ (rg ps k).1 ≤ 150000 by omega), inB_mk (show 0 ≤ (rg ps k).2.1 + 10 * s ∧ (rg ps k).2.1 + 10 * s ≤ (rg ps k).1 - 100 by omega), inB_mk (show 10 ≤ (rg ps k).2.2 ∧ (rg ps k).2.2 ≤ 300000 by omega), Bool.and_true]

/-- padded sums turn alike -/
theorem turnT_congr {zs a b : List Int} (h : ∀ j, a.getD j 0 = b.getD j 0) : turnT zs a = turnT zs b := by
  funext k r
  simp only [turnT, h]
theorem turn_nil (zs : List Int) (ps : List (Int × Int × Int)) : ∀ n, n ≤ ps.length → mapK (turnT zs []) ps n = ps.take n
  | 0, _ => by simp [mapK]
  | n + 1, h => by
    rw [mapK, turn_nil zs ps n (by omega), List.take_succ_eq_append_getElem (by omega)]
    congr 1
    rw [← rg_eq (show n < ps.length by omega)]
    simp [turnT]
theorem turn_none (zs : List Int) (ps : List (Int × Int × Int)) : mapK (turnT zs []) ps ps.length = ps := by rw [turn_nil zs ps _ (Nat.le_refl _), List.take_length]

def blkF (ls bf af : List Int) (tol : Int) : Nat → Nat → Int × Int × Int
  | 0, _ => (0, 0, 0)
  | f + 1, k => if lowB (ls.getD k 0) (bf.getD k 0) tol then ((k : Int) + 1, -1, 0) else if highB (ls.getD k 0) (af.getD k 0) tol then ((k : Int) + 1, 1, 0) else blkF ls bf af tol f (k + 1)
def goalAsk (zs : List Int) (ws : List (List Int)) (bs : List Int) (nm : ByteArray) (ps : List (Int × Int × Int)) (a b c d f t m : Int) : Int := if goalB a b c d f t m then modAsk zs ws bs nm ps else 1
def blkI (zs : List Int) (ws : List (List Int)) (bs : List Int) (nm : ByteArray) (ps : List (Int × Int × Int)) (a b c d f t m : Int) : Int × Int × Int :=
  if goalAsk zs ws bs nm ps a b c d f t m = 0 then blkF [a, b, c, d, f] (rawL ps zs ws bs) (rawL (mapK (turnT zs (limI nm ps zs m)) ps ps.length) zs ws bs) t 5 0 else (0, 0, goalAsk zs ws bs nm ps a b c d f t m)
theorem goalAsk_ok {zs : List Int} {ws : List (List Int)} {bs : List Int} {nm : ByteArray} {ps : List (Int × Int × Int)} {a b c d f t m : Int} (h : goalAsk zs ws bs nm ps a b c d f t m = 0) : goalB a b c d f t m = true ∧ modAsk zs ws bs nm ps = 0 := by
  unfold goalAsk at h
  split at h
  · rename_i h1; exact ⟨h1, h⟩
  · cases h
theorem goalB_t {a b c d f t m : Int} (h : goalB a b c d f t m = true) : soundB a b c d f = true ∧ 0 ≤ t ∧ t ≤ 20000 ∧ 0 ≤ m := by
  simp only [goalB, Bool.and_eq_true] at h
  have h1 := inB_t h.1.2
  have h2 := inB_t h.2
  exact ⟨h.1.1, h1.1, h1.2, h2.1⟩

end Go.Proofs.Ytmeeibcbhjifbaa

/- The tests ahead of a search, and the greatest numbers of steps. -/
namespace Go.Proofs.Ytmeeibcbhjifbaa
set_option linter.unusedVariables false
open Go.RowKit Go.Proofs.Bell Go.BigFrame

set_option maxRecDepth 100000 in
set_option maxHeartbeats 1600000 in
theorem aimed_c (zv wv bv : Value) (zs : List Int) (ws : List (List Int)) (bs : List Int) (nm : ByteArray) (sv : Value) (ps : List (Int × Int × Int)) (a b c d f t m : Int) (w : World) (hz : Rd w zv zs.length (ints zs)) (hw : RdSS w wv ws) (hb : Rd w bv bs.length (ints bs)) (hnm : nm.size ≤ maxLen) (hr : Rd w sv ps.length (trips ps)) :
    Calls Try.prog 84 #[.agg #[zv, wv, bv], .agg #[.string nm, sv], .agg #[.int .i64 a, .int .i64 b, .int .i64 c, .int .i64 d, .int .i64 f, .int .i64 t, .int .i64 m]] w (RetB (.int .i64 (goalAsk zs ws bs nm ps a b c d f t m)) w) := by
  have hg := fun w' => implValidGoal_c a b c d f t m w'
  have hm := fun w' (hx : Below w.heap.size w w') => modelled_c zv wv bv zs ws bs nm sv ps w' (hz.later hx) (hw.later hx) (hb.later hx) hnm (hr.later hx)
  unfold goalAsk
  generalize modAsk zs ws bs nm ps = code at *
  have HM := Lib.hid hm; clear hm
  clear hz hw hb hr
  cases t0 : goalB a b c d f t m <;> rw [t0] at hg
  · have HG := Lib.hid hg; clear hg
    go_enter Try.func84, Try.ntmps84
    have b0 : Below w.heap.size w w := Below.refl _ _
    have z0 : w.heap.size ≤ w.heap.size := Nat.le_refl _
    go_wp2_with fail
    refine (HG.out _).mono ?_
    rintro _ w1 ⟨rfl, r1⟩
    have s1 : Below w.heap.size w w1 := Below.trans (by go_grown) (r1.mono (by simp; try omega))
    have b1 := b0.trans (s1.mono z0)
    have z1 := b1.size
    have y1 := s1.size
    have c0_0_1 := below_cell r1 (p := ⟨w.heap.size, 0, none⟩) (v := zv) (by simp [go_sem])
    have c0_1_1 := below_cell r1 (p := ⟨w.heap.size, 1, none⟩) (v := wv) (by simp [go_sem])
    have c0_2_1 := below_cell r1 (p := ⟨w.heap.size, 2, none⟩) (v := bv) (by simp [go_sem])
    have c1_0_1 := below_cell r1 (p := ⟨w.heap.size + 1, 0, none⟩) (v := .string nm) (by simp [go_sem])
    have c1_1_1 := below_cell r1 (p := ⟨w.heap.size + 1, 1, none⟩) (v := sv) (by simp [go_sem])
    have c2_0_1 := below_cell r1 (p := ⟨w.heap.size + 1 + 1, 0, none⟩) (v := .int .i64 a) (by simp [go_sem])
    have c2_1_1 := below_cell r1 (p := ⟨w.heap.size + 1 + 1, 1, none⟩) (v := .int .i64 b) (by simp [go_sem])
    have c2_2_1 := below_cell r1 (p := ⟨w.heap.size + 1 + 1, 2, none⟩) (v := .int .i64 c) (by simp [go_sem])
    have c2_3_1 := below_cell r1 (p := ⟨w.heap.size + 1 + 1, 3, none⟩) (v := .int .i64 d) (by simp [go_sem])
    have c2_4_1 := below_cell r1 (p := ⟨w.heap.size + 1 + 1, 4, none⟩) (v := .int .i64 f) (by simp [go_sem])
    have c2_5_1 := below_cell r1 (p := ⟨w.heap.size + 1 + 1, 5, none⟩) (v := .int .i64 t) (by simp [go_sem])
    have c2_6_1 := below_cell r1 (p := ⟨w.heap.size + 1 + 1, 6, none⟩) (v := .int .i64 m) (by simp [go_sem])
    clear r1
    go_wp2
    go_returns
    exact RetB.mk (rfl) b1
  · have HG := Lib.hid hg; clear hg
    go_enter Try.func84, Try.ntmps84
    have b0 : Below w.heap.size w w := Below.refl _ _
    have z0 : w.heap.size ≤ w.heap.size := Nat.le_refl _
    go_wp2_with fail
    refine (HG.out _).mono ?_
    rintro _ w1 ⟨rfl, r1⟩
    have s1 : Below w.heap.size w w1 := Below.trans (by go_grown) (r1.mono (by simp; try omega))
    have b1 := b0.trans (s1.mono z0)
    have z1 := b1.size
    have y1 := s1.size
    have c0_0_1 := below_cell r1 (p := ⟨w.heap.size, 0, none⟩) (v := zv) (by simp [go_sem])
    have c0_1_1 := below_cell r1 (p := ⟨w.heap.size, 1, none⟩) (v := wv) (by simp [go_sem])
    have c0_2_1 := below_cell r1 (p := ⟨w.heap.size, 2, none⟩) (v := bv) (by simp [go_sem])
    have c1_0_1 := below_cell r1 (p := ⟨w.heap.size + 1, 0, none⟩) (v := .string nm) (by simp [go_sem])
    have c1_1_1 := below_cell r1 (p := ⟨w.heap.size + 1, 1, none⟩) (v := sv) (by simp [go_sem])
    have c2_0_1 := below_cell r1 (p := ⟨w.heap.size + 1 + 1, 0, none⟩) (v := .int .i64 a) (by simp [go_sem])
    have c2_1_1 := below_cell r1 (p := ⟨w.heap.size + 1 + 1, 1, none⟩) (v := .int .i64 b) (by simp [go_sem])
    have c2_2_1 := below_cell r1 (p := ⟨w.heap.size + 1 + 1, 2, none⟩) (v := .int .i64 c) (by simp [go_sem])
    have c2_3_1 := below_cell r1 (p := ⟨w.heap.size + 1 + 1, 3, none⟩) (v := .int .i64 d) (by simp [go_sem])
    have c2_4_1 := below_cell r1 (p := ⟨w.heap.size + 1 + 1, 4, none⟩) (v := .int .i64 f) (by simp [go_sem])
    have c2_5_1 := below_cell r1 (p := ⟨w.heap.size + 1 + 1, 5, none⟩) (v := .int .i64 t) (by simp [go_sem])
    have c2_6_1 := below_cell r1 (p := ⟨w.heap.size + 1 + 1, 6, none⟩) (v := .int .i64 m) (by simp [go_sem])
    clear r1
    go_wp2_with fail
    refine (HM.out _ b1).mono ?_
    rintro _ w2 ⟨rfl, r2⟩
    have s2 := r2
    have b2 := b1.trans (s2.mono z1)
    have z2 := b2.size
    have y2 := s2.size
    have c0_0_2 := below_cell s2 c0_0_1; clear c0_0_1
    have c0_1_2 := below_cell s2 c0_1_1; clear c0_1_1
    have c0_2_2 := below_cell s2 c0_2_1; clear c0_2_1
    have c1_0_2 := below_cell s2 c1_0_1; clear c1_0_1
    have c1_1_2 := below_cell s2 c1_1_1; clear c1_1_1
    have c2_0_2 := below_cell s2 c2_0_1; clear c2_0_1
    have c2_1_2 := below_cell s2 c2_1_1; clear c2_1_1
    have c2_2_2 := below_cell s2 c2_2_1; clear c2_2_1
    have c2_3_2 := below_cell s2 c2_3_1; clear c2_3_1
    have c2_4_2 := below_cell s2 c2_4_1; clear c2_4_1
    have c2_5_2 := below_cell s2 c2_5_1; clear c2_5_1
    have c2_6_2 := below_cell s2 c2_6_1; clear c2_6_1
    clear r2
    go_wp2
    go_returns
    exact RetB.mk (rfl) b2

set_option maxRecDepth 100000 in
set_option maxHeartbeats 1600000 in
theorem l10Ask_c (g g' g'' : Nat) (zv wv bv : Value) (zs : List Int) (ws : List (List Int)) (bs : List Int) (nm : ByteArray) (sv : Value) (ps : List (Int × Int × Int)) (a b c d f t m : Int) (w : World) (c0 : w.cell? ⟨g, 0, none⟩ = some zv) (c1 : w.cell? ⟨g, 1, none⟩ = some wv) (c2 : w.cell? ⟨g, 2, none⟩ = some bv) (d0 : w.cell? ⟨g', 0, none⟩ = some (.string nm)) (d1 : w.cell? ⟨g', 1, none⟩ = some sv)
    (hG : H6 g'' a b c d f t w) (h6 : w.cell? ⟨g'', 6, none⟩ = some (.int .i64 m)) (hz : Rd w zv zs.length (ints zs)) (hw : RdSS w wv ws) (hb : Rd w bv bs.length (ints bs)) (hnm : nm.size ≤ maxLen) (hr : Rd w sv ps.length (trips ps)) :
    Calls Try.prog 79 #[.pointer (some ⟨g, 0, none⟩), .pointer (some ⟨g', 0, none⟩), .pointer (some ⟨g'', 0, none⟩)] w (RetB (.int .i64 (goalAsk zs ws bs nm ps a b c d f t m)) w) := by
  have hg := fun w' (hx : Below w.heap.size w w') => l10Goal_c a b c d f t m g'' w' (below_cell hx hG.p0) (below_cell hx hG.p1) (below_cell hx hG.p2) (below_cell hx hG.p3) (below_cell hx hG.p4) (below_cell hx hG.p5) (below_cell hx h6)
  have hm := fun w' (hx : Below w.heap.size w w') => l08Ask_c g g' zv wv bv zs ws bs nm sv ps w' (below_cell hx c0) (below_cell hx c1) (below_cell hx c2) (below_cell hx d0) (below_cell hx d1) (hz.later hx) (hw.later hx) (hb.later hx) hnm (hr.later hx)
  unfold goalAsk
  generalize modAsk zs ws bs nm ps = code at *
  have HM := Lib.hid hm; clear hm
  clear hz hw hb hr c0 c1 c2 d0 d1 hG h6
  cases t0 : goalB a b c d f t m <;> rw [t0] at hg
  · have HG := Lib.hid hg; clear hg
    go_enter Try.func79, Try.ntmps79
    have b0 : Below w.heap.size w w := Below.refl _ _
    have z0 : w.heap.size ≤ w.heap.size := Nat.le_refl _
    go_wp2_with fail
    refine (HG.out _ b0).mono ?_
    rintro _ w1 ⟨rfl, r1⟩
    have s1 := r1
    have b1 := b0.trans (s1.mono z0)
    have z1 := b1.size
    have y1 := s1.size
    clear r1
    go_wp2
    go_returns
    exact RetB.mk (rfl) b1
  · have HG := Lib.hid hg; clear hg
    go_enter Try.func79, Try.ntmps79
    have b0 : Below w.heap.size w w := Below.refl _ _
    have z0 : w.heap.size ≤ w.heap.size := Nat.le_refl _
    go_wp2_with fail
    refine (HG.out _ b0).mono ?_
    rintro _ w1 ⟨rfl, r1⟩
    have s1 := r1
    have b1 := b0.trans (s1.mono z0)
    have z1 := b1.size
    have y1 := s1.size
    clear r1
    go_wp2_with fail
    refine (HM.out _ b1).mono ?_
    rintro _ w2 ⟨rfl, r2⟩
    have s2 := r2
    have b2 := b1.trans (s2.mono z1)
    have z2 := b2.size
    have y2 := s2.size
    clear r2
    go_wp2
    go_returns
    exact RetB.mk (rfl) b2

theorem minI_min (m x : Int) : minI m x = min x m := by unfold minI; split <;> omega
/-- the first `k` numbers changed -/
def mixI (f : Int → Int) (l : List Int) (k : Nat) : List Int := (l.take k).map f ++ l.drop k
theorem mixI_len (f : Int → Int) (l : List Int) (k : Nat) : (mixI f l k).length = l.length := by simp [mixI]; omega
theorem mixI_zero (f : Int → Int) (l : List Int) : mixI f l 0 = l := by simp [mixI]
theorem mixI_end (f : Int → Int) (l : List Int) : mixI f l l.length = l.map f := by simp [mixI]
theorem mixI_at (f : Int → Int) (l : List Int) {k : Nat} (h : k < l.length) : (mixI f l k).getD k 0 = l.getD k 0 := by
  unfold mixI
  simp only [List.getD]
  rw [List.getElem?_append_right (by simp; omega), List.getElem?_drop]
  congr 2
  simp; omega
theorem mixI_set (f : Int → Int) (l : List Int) {k : Nat} (h : k < l.length) : (mixI f l k).set k (f (l.getD k 0)) = mixI f l (k + 1) := by
  have h1 : l.drop k = l.getD k 0 :: l.drop (k + 1) := by rw [getD_eq h]; exact List.drop_eq_getElem_cons h
  have h2 : l.take (k + 1) = l.take k ++ [l.getD k 0] := by rw [getD_eq h]; exact List.take_succ_eq_append_getElem h
  rw [mixI, List.set_append_right _ _ (by simp; omega), h1, mixI, h2]
  have : k - ((l.take k).map f).length = 0 := by simp; omega
  rw [this, List.set_cons_zero]
  simp

set_option maxRecDepth 100000 in
set_option maxHeartbeats 3200000 in
theorem limits_c (zv wv bv : Value) (zs : List Int) (nm : ByteArray) (sv : Value) (ps : List (Int × Int × Int)) (a b c d f t m : Int) (w : World) (hz : Rd w zv zs.length (ints zs)) (hnm : nm.size ≤ maxLen) (hr : Rd w sv ps.length (trips ps))
    (hl1 : 1 ≤ ps.length) (hl2 : ps.length ≤ 32) (hal : ps.all ringT = true) (hzb : zonesB zs ((ps.length : Int) - 1) = true) :
    Calls Try.prog 86 #[.agg #[zv, wv, bv], .agg #[.string nm, sv], .agg #[.int .i64 a, .int .i64 b, .int .i64 c, .int .i64 d, .int .i64 f, .int .i64 t, .int .i64 m]] w (RetOwnI (limI nm ps zs m) w) := by
  obtain ⟨hz1, hz8⟩ := zones_len hzb
  have hro := fun w' (hx : Below w.heap.size w w') => roomOf_c nm sv ps zv zs w' hnm (hr.later hx) (hz.later hx) hl1 hl2 hal hzb
  have hRL := roomK_len nm ps zs zs.length
  unfold limI
  generalize roomK nm ps zs zs.length = R at *
  have HRO := Lib.hid hro; clear hro
  clear hz hr hal hzb
  rw [← hRL] at hz1 hz8
  clear hRL
  have hmz := mixI_zero (fun x => minI m x) R
  have hme := mixI_end (fun x => minI m x) R
  have hml := mixI_len (fun x => minI m x) R
  have hma := fun k (h : k < R.length) => mixI_at (fun x => minI m x) R h
  have hms := fun k (h : k < R.length) => mixI_set (fun x => minI m x) R h
  have HME := Lib.hid hme; clear hme
  have HML := Lib.hid hml; clear hml
  have HMA := Lib.hid hma; clear hma
  have HMS := Lib.hid hms; clear hms
  go_enter Try.func86, Try.ntmps86
  have b0 : Below w.heap.size w w := Below.refl _ _
  have z0 : w.heap.size ≤ w.heap.size := Nat.le_refl _
  go_wp2_with fail
  refine (HRO.out _ (by go_grown)).mono ?_
  rintro _ w1 ⟨x1, rfl, n1, r1⟩
  have s1 : Below w.heap.size w w1 := Below.trans (by go_grown) (r1.mono (by simp; try omega))
  have b1 := b0.trans (s1.mono z0)
  have z1 := b1.size
  have y1 := s1.size
  have c0_0_1 := below_cell r1 (p := ⟨w.heap.size, 0, none⟩) (v := zv) (by simp [go_sem])
  have c0_1_1 := below_cell r1 (p := ⟨w.heap.size, 1, none⟩) (v := wv) (by simp [go_sem])
  have c0_2_1 := below_cell r1 (p := ⟨w.heap.size, 2, none⟩) (v := bv) (by simp [go_sem])
  have c1_0_1 := below_cell r1 (p := ⟨w.heap.size + 1, 0, none⟩) (v := .string nm) (by simp [go_sem])
  have c1_1_1 := below_cell r1 (p := ⟨w.heap.size + 1, 1, none⟩) (v := sv) (by simp [go_sem])
  have c2_0_1 := below_cell r1 (p := ⟨w.heap.size + 1 + 1, 0, none⟩) (v := .int .i64 a) (by simp [go_sem])
  have c2_1_1 := below_cell r1 (p := ⟨w.heap.size + 1 + 1, 1, none⟩) (v := .int .i64 b) (by simp [go_sem])
  have c2_2_1 := below_cell r1 (p := ⟨w.heap.size + 1 + 1, 2, none⟩) (v := .int .i64 c) (by simp [go_sem])
  have c2_3_1 := below_cell r1 (p := ⟨w.heap.size + 1 + 1, 3, none⟩) (v := .int .i64 d) (by simp [go_sem])
  have c2_4_1 := below_cell r1 (p := ⟨w.heap.size + 1 + 1, 4, none⟩) (v := .int .i64 f) (by simp [go_sem])
  have c2_5_1 := below_cell r1 (p := ⟨w.heap.size + 1 + 1, 5, none⟩) (v := .int .i64 t) (by simp [go_sem])
  have c2_6_1 := below_cell r1 (p := ⟨w.heap.size + 1 + 1, 6, none⟩) (v := .int .i64 m) (by simp [go_sem])
  clear r1
  obtain ⟨gb, cb, rfl, hgb1, hgb2⟩ := World.ownsRow.form n1 (by omega)
  have n1' : OwnI (w.heap.size + 3) w1 (.slice (some ⟨gb, 0, none⟩) R.length cb) R := own_base n1 (by simp)
  have hgb3 : w.heap.size + 3 ≤ gb := own_lo n1' gb rfl
  have hfz := fun w' (ho : Only (fun x => x = gb) w1 w') => cell_only ho c2_6_1 (show ¬ w.heap.size + 1 + 1 = gb by omega)
  have HFZ := Lib.hid hfz; clear hfz
  have N1 := Lib.hid n1'; clear n1'
  clear n1
  go_wp2_with fail
  go_loopw [15] (fun i wr => ∃ (k : Nat), k ≤ R.length ∧ i = .int .i64 k ∧ Only (fun x => x = gb) w1 wr ∧ OwnI (w.heap.size + 3) wr (.slice (some ⟨gb, 0, none⟩) R.length cb) (mixI (fun x => minI m x) R k)) (fun i _ => R.length - (intOf i).toNat)
  case atStart => exact ⟨0, Nat.zero_le _, rfl, Only.refl _ _, by rw [hmz]; exact N1.out⟩
  case round =>
    obtain ⟨k, hk, rfl, hq, ho⟩ := hrel
    by_cases hlt : k < R.length
    · have ho' : wr.ownsRow (w.heap.size + 3) 2 1 (.slice (some ⟨gb, 0, none⟩) R.length cb) R.length (ints (mixI (fun x => minI m x) R k)) := by unfold OwnI at ho; rwa [HML.out k] at ho
      have hfr := World.ownsRow.frozenAt ho' k
      have hix := ix (P := Try.prog) (T := 38) (n := R.length) (cap := cb) Try.underlying38 cells_int64 has_int64 (ao := some ⟨gb, 0, none⟩) (b := gb) (off := 0) (fun _ => rfl) (k := k) hlt _ rfl
      rw [Nat.mul_one, Nat.zero_add] at hix
      have hc : wr.cell? ⟨gb, k, none⟩ = some (.int .i64 (R.getD k 0)) := by
        rw [← HMA.out k hlt, getD_eq (show k < (mixI (fun x => minI m x) R k).length by rw [HML.out]; exact hlt)]
        exact (World.ownsRow.cellAt ho' k (by omega)).trans (intsAt (by rw [HML.out]; exact hlt))
      have hg6 := HFZ.out wr hq
      have hput : OwnI (w.heap.size + 3) (wr.setCell ⟨gb, k, none⟩ (.int .i64 (minI m (R.getD k 0)))).drew (.slice (some ⟨gb, 0, none⟩) R.length cb) (mixI (fun x => minI m x) R (k + 1)) := by
        have hst := own_later (World.ownsRow.stored ho' k (.int .i64 (minI m (R.getD k 0)))).1 (below_drewN (Below.refl _ _) 1)
        rw [← HMS.out k hlt]
        unfold OwnI
        rw [List.length_set, HML.out, show ints ((mixI (fun x => minI m x) R k).set k (minI m (R.getD k 0))) = (ints (mixI (fun x => minI m x) R k)).set k (.int .i64 (minI m (R.getD k 0))) by unfold ints; rw [List.map_set]]
        exact hst
      have hon : Only (fun x => x = gb) w1 (wr.setCell ⟨gb, k, none⟩ (.int .i64 (minI m (R.getD k 0)))).drew := (hq.setCell (p := ⟨gb, k, none⟩) rfl _).trans (Only.of_below (below_drewN (Below.refl _ _) 1))
      rw [minI_min] at hput hon
      have HPUT := Lib.hid hput; clear hput
      have HON := Lib.hid hon; clear hon
      clear ho ho' hq
      generalize R.getD k 0 = x at *
      go_wp2_with fail
      go_region
      go_wp2
      go_roundw
      case rel => exact ⟨k + 1, by omega, by go_num, HON.out, HPUT.out⟩
      case measure => simp [intOf]; omega
    · obtain rfl : k = R.length := by omega
      rw [HME.out] at ho
      have bw : Below w.heap.size w wr := Only.below b1 hq z1 (fun x e => by omega)
      have hlm : (R.map (fun x => minI m x)).length = R.length := List.length_map ..
      have HO := Lib.hid ho; clear ho
      go_wp2
      go_returns
      exact ⟨_, rfl, own_base HO.out (by omega), bw⟩

end Go.Proofs.Ytmeeibcbhjifbaa

/- The reference's search that has not begun. -/
namespace Go.Proofs.Ytmeeibcbhjifbaa
set_option linter.unusedVariables false
open Go.RowKit Go.Proofs.Bell Go.BigFrame

set_option maxHeartbeats 400000 in
theorem l00Min_c (a b : Int) (w : World) : Calls Try.prog 138 #[.int .i64 a, .int .i64 b] w (RetS (.int .i64 (minI a b)) w) := by
  unfold minI
  by_cases h : a < b
  · rw [if_pos h]
    have h1 : decide (a < b) = true := decide_eq_true h
    go_enter Try.func138, Try.ntmps138
    go_wp2
    go_returns
    exact RetS.mk rfl
  · rw [if_neg h]
    have h1 : decide (a < b) = false := decide_eq_false h
    go_enter Try.func138, Try.ntmps138
    go_wp2
    go_returns
    exact RetS.mk rfl

/-- a search's box -/
structure NewX (x g g' : Nat) (u st : Value) (w' : World) : Prop where
  x0 : w'.cell? ⟨x, 0, none⟩ = some (.pointer (some ⟨g, 0, none⟩))
  x1 : w'.cell? ⟨x, 1, none⟩ = some (.pointer (some ⟨g', 0, none⟩))
  x3 : w'.cell? ⟨x, 3, none⟩ = some u
  x4 : w'.cell? ⟨x, 4, none⟩ = some st
  xf : ∀ j, w'.frozen? ⟨x, j, none⟩ = false
theorem NewX.lt {x g g' : Nat} {u st : Value} {w : World} (h : NewX x g g' u st w) : x < w.heap.size := World.block_lt_of_cell? _ _ h.x0
theorem NewX.only {S : Nat → Prop} {x g g' : Nat} {u st : Value} {w w' : World} (h : NewX x g g' u st w) (ho : Only S w w') (hn : ¬ S x) : NewX x g g' u st w' :=
  ⟨cell_only ho h.x0 hn, cell_only ho h.x1 hn, cell_only ho h.x3 hn, cell_only ho h.x4 hn, fun j => (frozen_only ho (p := ⟨x, j, none⟩) h.lt hn).trans (h.xf j)⟩
theorem NewX.later {x g g' : Nat} {u st : Value} {w w' : World} (h : NewX x g g' u st w) (hb : Below w.heap.size w w') : NewX x g g' u st w' := h.only (Only.of_below (S := fun b => w.heap.size ≤ b) hb) (by have := h.lt; omega)
theorem NewX.room {x g g' : Nat} {u st : Value} {w : World} (h : NewX x g g' u st w) (v : Value) : NewX x g g' v st (w.setCell ⟨x, 3, none⟩ v) :=
  ⟨by rw [World.cell?_setCell_other _ _ _ _ (by simp)]; exact h.x0, by rw [World.cell?_setCell_other _ _ _ _ (by simp)]; exact h.x1, World.cell?_setCell_same _ _ _ h.x3, by rw [World.cell?_setCell_other _ _ _ _ (by simp)]; exact h.x4, fun j => by rw [World.frozen?_setCell]; exact h.xf j⟩
theorem NewX.steps {x g g' : Nat} {u st : Value} {w : World} (h : NewX x g g' u st w) (v : Value) : NewX x g g' u v (w.setCell ⟨x, 4, none⟩ v) :=
  ⟨by rw [World.cell?_setCell_other _ _ _ _ (by simp)]; exact h.x0, by rw [World.cell?_setCell_other _ _ _ _ (by simp)]; exact h.x1, by rw [World.cell?_setCell_other _ _ _ _ (by simp)]; exact h.x3, World.cell?_setCell_same _ _ _ h.x4, fun j => by rw [World.frozen?_setCell]; exact h.xf j⟩

def RetNew (g g' : Nat) (L : List Int) (w : World) (e : Ending) (w' : World) : Prop :=
  ∃ x u, e = .returned (.pointer (some ⟨x, 0, none⟩)) ∧ w.heap.size ≤ x ∧ NewX x g g' u (.slice none 0 0) w' ∧ OwnI (x + 1) w' u L ∧ Below w.heap.size w w'

theorem take_more (L : List Int) {k : Nat} (h : k < L.length) : L.take k ++ [L.getD k 0] = L.take (k + 1) := by rw [getD_eq h]; exact (List.take_succ_eq_append_getElem h).symm

/-- what the region asks of a world -/
structure SNew (x g g' g'' : Nat) (u zv : Value) (m : Int) (w' : World) : Prop where
  n : NewX x g g' u (.slice none 0 0) w'
  c0 : w'.cell? ⟨g, 0, none⟩ = some zv
  g6 : w'.cell? ⟨g'', 6, none⟩ = some (.int .i64 m)

set_option maxRecDepth 100000 in
set_option maxHeartbeats 6400000 in
theorem l10New_c (g g' g'' : Nat) (zv wv bv : Value) (zs : List Int) (nm : ByteArray) (sv : Value) (ps : List (Int × Int × Int)) (m : Int) (w : World) (c0 : w.cell? ⟨g, 0, none⟩ = some zv) (d0 : w.cell? ⟨g', 0, none⟩ = some (.string nm)) (d1 : w.cell? ⟨g', 1, none⟩ = some sv)
    (h6 : w.cell? ⟨g'', 6, none⟩ = some (.int .i64 m)) (hz : Rd w zv zs.length (ints zs)) (hnm : nm.size ≤ maxLen) (hr : Rd w sv ps.length (trips ps))
    (hl1 : 1 ≤ ps.length) (hl2 : ps.length ≤ 32) (hal : ps.all ringT = true) (hzb : zonesB zs ((ps.length : Int) - 1) = true) :
    Calls Try.prog 80 #[.pointer (some ⟨g, 0, none⟩), .pointer (some ⟨g', 0, none⟩), .pointer (some ⟨g'', 0, none⟩), .int .i64 1] w (RetNew g g' (limI nm ps zs m) w) := by
  obtain ⟨hz1, hz8⟩ := zones_len hzb
  have hg' : g' < w.heap.size := World.block_lt_of_cell? w _ d0
  have hmo := fun w' k (hk : k < zs.length) (hx : Below w.heap.size w w') => l09Most_c g' nm sv ps zv zs k w' (by have := hx.size; omega) hnm (below_cell hx d0) (below_cell hx d1) (hr.later hx) (hz.later hx) hl1 hl2 hal hzb hk
  have hmi := fun a b w' => l00Min_c a b w'
  have hla := fun k (hk : k < zs.length) => limI_at nm ps zs m k hk
  have hll := limI_len nm ps zs m
  generalize limI nm ps zs m = L at *
  have hcz := fun w' (hx : Below w.heap.size w w') => below_cell hx c0
  have hc6 := fun w' (hx : Below w.heap.size w w') => below_cell hx h6
  obtain ⟨hnq, aoq, capq, bq, offq, rfl, haoq, hcellq⟩ := hz.open
  have htm := fun k (hk : k < zs.length) => take_more L (show k < L.length by omega)
  have hte : L.take zs.length = L := by rw [← hll]; exact List.take_length
  have HMO := Lib.hid hmo; clear hmo
  have HMI := Lib.hid hmi; clear hmi
  have HLA := Lib.hid hla; clear hla
  have HLL := Lib.hid hll; clear hll
  have HCZ := Lib.hid hcz; clear hcz
  have HC6 := Lib.hid hc6; clear hc6
  have HTM := Lib.hid htm; clear htm
  have HTE := Lib.hid hte; clear hte
  clear hcellq haoq hz hr c0 d0 d1 h6 hal hzb
  generalize zs.length = nz at *
  go_enter Try.func80, Try.ntmps80
  go_wp2_with fail
  go_loopw [10] (fun i wr => ∃ (k : Nat) (u : Value), k ≤ nz ∧ i = .int .i64 k ∧ Below w.heap.size w wr ∧ NewX w.heap.size g g' u (.slice none 0 0) wr ∧ OwnI (w.heap.size + 1) wr u (L.take k)) (fun i _ => nz - (intOf i).toNat)
  case atStart => exact ⟨0, .slice none 0 0, Nat.zero_le _, rfl, by go_grown, ⟨by simp [go_sem], by simp [go_sem], by simp [go_sem], by simp [go_sem], by simp [go_sem]⟩, World.ownsRow_nil _ _ _ _⟩
  case round =>
    obtain ⟨k, u, hk, rfl, hb, hN, ho⟩ := hrel
    have e0 := HCZ.out wr hb
    by_cases hlt : k < nz
    · have hltd : decide (k < nz) = true := decide_eq_true hlt
      have hm1 := fun w' => HMI.out m ((mostI nm ps zs k : Nat) : Int) w'
      rw [← HLA.out k hlt] at hm1
      have htk := HTM.out k hlt
      generalize L.getD k 0 = x at *
      have HM1 := Lib.hid hm1; clear hm1
      have HTK := Lib.hid htk; clear htk
      have hlen : (L.take k).length = k := by rw [List.length_take]; have := HLL.out; omega
      have HS : SNew w.heap.size g g' g'' u (.slice aoq nz capq) m wr.drew := ⟨hN.later (below_drewN (Below.refl _ _) 1), below_cell (below_drewN (Below.refl _ _) 1) e0, below_cell (below_drewN (Below.refl _ _) 1) (HC6.out wr hb)⟩
      have hb := hb.drew
      have ho := own_later ho (below_drewN (Below.refl _ _) 1)
      have HO := Lib.hid ho; clear ho
      clear hN
      go_wp2_with fail
      refine startX (SNew w.heap.size g g' g'' u (.slice aoq nz capq) m) [21] (by kernel_rfl) ?_
      refine takeX 0 26 (.pointer (some ⟨w.heap.size, 0, none⟩)) rfl rfl (by kernel_rfl) (fun _ _ _ h => h) (by rfl) (fun _ _ => rfl) HS ?_
      simp only [List.setIfInBounds_toArray, List.set_cons_zero, List.set_cons_succ]
      refine takeX 1 27 (.pointer (some ⟨w.heap.size, 0, none⟩)) rfl rfl (by kernel_rfl) (fun _ _ _ h => h) (by rfl) (fun _ _ => rfl) HS ?_
      simp only [List.setIfInBounds_toArray, List.set_cons_zero, List.set_cons_succ]
      refine takeX 2 28 (.pointer (some ⟨w.heap.size, 0, none⟩)) rfl rfl (by kernel_rfl) (fun _ _ _ h => h) (by rfl) (fun _ _ => by (go_simp; done)) HS ?_
      simp only [List.setIfInBounds_toArray, List.set_cons_zero, List.set_cons_succ]
      refine takeX 3 29 (.pointer (some ⟨w.heap.size, 3, none⟩)) rfl rfl (by kernel_rfl) (fun _ _ _ h => h) (by rfl) (fun _ _ => by (go_simp; done)) HS ?_
      simp only [List.setIfInBounds_toArray, List.set_cons_zero, List.set_cons_succ]
      refine takeX 4 30 (u) rfl rfl (by kernel_rfl) (fun _ _ _ h => h) (by rfl) (fun w' hS => by (have q := hS.n; have q0 := q.x3; clear q hS HS; go_simp; done)) HS ?_
      simp only [List.setIfInBounds_toArray, List.set_cons_zero, List.set_cons_succ]
      refine takeX 5 31 (.pointer (some ⟨g'', 0, none⟩)) rfl rfl (by kernel_rfl) (fun _ _ _ h => h) (by rfl) (fun _ _ => rfl) HS ?_
      simp only [List.setIfInBounds_toArray, List.set_cons_zero, List.set_cons_succ]
      refine takeX 6 32 (.pointer (some ⟨g'', 0, none⟩)) rfl rfl (by kernel_rfl) (fun _ _ _ h => h) (by rfl) (fun _ _ => by (go_simp; done)) HS ?_
      simp only [List.setIfInBounds_toArray, List.set_cons_zero, List.set_cons_succ]
      refine takeX 7 33 (.pointer (some ⟨g'', 6, none⟩)) rfl rfl (by kernel_rfl) (fun _ _ _ h => h) (by rfl) (fun _ _ => by (go_simp; done)) HS ?_
      simp only [List.setIfInBounds_toArray, List.set_cons_zero, List.set_cons_succ]
      refine takeX 8 34 (.int .i64 m) rfl rfl (by kernel_rfl) (fun _ _ _ h => h) (by rfl) (fun w' hS => by (have q0 := hS.g6; clear hS HS; go_simp; done)) HS ?_
      simp only [List.setIfInBounds_toArray, List.set_cons_zero, List.set_cons_succ]
      refine takeX 9 35 (.pointer (some ⟨g', 0, none⟩)) rfl rfl (by kernel_rfl) (fun _ _ _ h => h) (by rfl) (fun _ _ => rfl) HS ?_
      simp only [List.setIfInBounds_toArray, List.set_cons_zero, List.set_cons_succ]
      refine takeX 10 36 (.pointer (some ⟨g, 0, none⟩)) rfl rfl (by kernel_rfl) (fun _ _ _ h => h) (by rfl) (fun _ _ => rfl) HS ?_
      simp only [List.setIfInBounds_toArray, List.set_cons_zero, List.set_cons_succ]
      refine takeX 11 37 (.pointer (some ⟨g, 0, none⟩)) rfl rfl (by kernel_rfl) (fun _ _ _ h => h) (by rfl) (fun _ _ => by (go_simp; done)) HS ?_
      simp only [List.setIfInBounds_toArray, List.set_cons_zero, List.set_cons_succ]
      refine takeX 12 38 (.pointer (some ⟨g, 0, none⟩)) rfl rfl (by kernel_rfl) (fun _ _ _ h => h) (by rfl) (fun _ _ => by (go_simp; done)) HS ?_
      simp only [List.setIfInBounds_toArray, List.set_cons_zero, List.set_cons_succ]
      refine takeX 13 39 (.slice aoq nz capq) rfl rfl (by kernel_rfl) (fun _ _ _ h => h) (by rfl) (fun w' hS => by (have q0 := hS.c0; clear hS HS; go_simp; done)) HS ?_
      simp only [List.setIfInBounds_toArray, List.set_cons_zero, List.set_cons_succ]
      refine takeX 14 40 (.int .i64 k) rfl rfl (by kernel_rfl) (fun _ _ _ h => h) (by rfl) (fun _ _ => rfl) HS ?_
      simp only [List.setIfInBounds_toArray, List.set_cons_zero, List.set_cons_succ]
      refine stepX 15 (by kernel_rfl) rfl ?_
      intro K hK
      go_simp
      refine (HMO.out _ k hlt hb).mono ?_
      rintro _ wa ⟨rfl, qa⟩
      have HS := SNew.mk (HS.n.later qa) (below_cell qa HS.c0) (below_cell qa HS.g6)
      have hb := hb.trans (qa.mono hb.size)
      have ho := own_later HO.out qa
      clear HO qa
      have HO := Lib.hid ho; clear ho
      refine hK _ _ (fun _ => HS) ?_
      clear hK K
      refine stepX 16 (by kernel_rfl) rfl ?_
      intro K hK
      go_simp
      refine (HM1.out _).mono ?_
      rintro _ _ ⟨rfl, rfl⟩
      refine hK _ _ (fun _ => HS) ?_
      clear hK K
      refine stepX 17 (by kernel_rfl) rfl ?_
      intro K hK
      go_simp
      have kb : Below wa.heap.size wa (wa.alloc (.cells #[.int .i64 x] 2)) := (Below.refl _ _).alloc (Nat.le_refl _) _
      have HS0 := HS
      have HS := SNew.mk (HS.n.later kb) (below_cell kb HS.c0) (below_cell kb HS.g6)
      refine hK _ _ (fun _ => HS) ?_
      clear hK K
      refine stepX 18 (by kernel_rfl) rfl ?_
      intro K hK
      refine sapp1_I (.tmp 30) (.tmp 43) wa (w.heap.size + 1) wa.heap.size u (L.take k) x (by rfl) (by rfl) rfl (by rfl) (by rfl) HO.out (by omega) (by have := HS0.n.lt; omega) ?_
      intro v2 w2 o2 q2
      have nx : ¬ u.ownBlock = some w.heap.size := fun e => by have := own_lo HO.out _ e; omega
      have hb2 := Only.below hb q2 hb.size (fun j e => by have := own_lo HO.out _ e; omega)
      have HS := SNew.mk (NewX.only HS0.n q2 nx) (HCZ.out w2 hb2) (HC6.out w2 hb2)
      rw [HTK.out] at o2
      obtain ⟨a3, p3, hv3⟩ := own_shape o2
      rw [show (L.take (k + 1)).length = k + 1 by rw [List.length_take]; have := HLL.out; omega] at hv3
      clear HO HS0 q2 nx hb
      have O2 := Lib.hid o2; clear o2
      refine hK _ _ (fun _ => HS) ?_
      clear hK K
      simp only [Act.put, List.setIfInBounds_toArray, List.set_cons_zero, List.set_cons_succ]
      refine stepX 19 (by kernel_rfl) rfl ?_
      intro K hK
      go_simp
      refine hK _ _ (fun _ => HS) ?_
      clear hK K
      refine stepX 20 (by kernel_rfl) rfl ?_
      intro K hK
      go_simp
      refine hK _ _ (fun _ => HS) ?_
      clear hK K
      have q3 := HS.n.x3
      have qf := HS.n.xf 3
      subst hv3
      refine stepX 21 (by kernel_rfl) rfl ?_
      intro K hK
      go_simp
      refine hK _ _ (fun h => absurd h (by decide)) ?_
      clear hK K
      refine doneX (by kernel_rfl) ?_ _
      generalize hv4 : Value.slice a3 (k + 1) p3 = v2 at *
      have hN2 := HS.n.room v2
      have o3 := own_set O2.out (a := ⟨w.heap.size, 3, none⟩) (fun j e => by have := own_lo O2.out j e; show w.heap.size ≠ j; omega) v2
      have hb3 : Below w.heap.size w (w2.setCell ⟨w.heap.size, 3, none⟩ v2) := hb2.setCell (Nat.le_refl _) _
      have HN2 := Lib.hid hN2; clear hN2
      have O3 := Lib.hid o3; clear o3
      clear q3 qf HS O2
      go_wp2
      go_roundw
      case rel => exact ⟨k + 1, v2, by omega, by go_num, hb3, HN2.out, O3.out⟩
      case measure => simp [intOf]; omega
    · obtain rfl : k = nz := by omega
      have hltd : decide (k < k) = false := decide_eq_false (by omega)
      rw [HTE.out] at ho
      have HO := Lib.hid ho; clear ho
      have HN := Lib.hid hN; clear hN
      go_wp2
      go_returns
      exact ⟨_, u, rfl, Nat.le_refl _, HN.out, HO.out, hb⟩

end Go.Proofs.Ytmeeibcbhjifbaa

/- The partials after some steps of a search. -/
namespace Go.Proofs.Ytmeeibcbhjifbaa
set_option linter.unusedVariables false
open Go.RowKit Go.Proofs.Bell Go.BigFrame

def padK (L : List Int) (k : Nat) : List Int := L.take k ++ List.replicate (8 - k) 0
theorem padK_len (L : List Int) {k : Nat} (h : k ≤ L.length) (h8 : L.length ≤ 8) : (padK L k).length = 8 := by simp [padK]; omega
theorem padK_zero (L : List Int) : padK L 0 = List.replicate 8 0 := by simp [padK]
theorem padK_set (L : List Int) {k : Nat} (h : k < L.length) (h8 : L.length ≤ 8) : (padK L k).set k (L.getD k 0) = padK L (k + 1) := by
  have h1 : List.replicate (8 - k) (0 : Int) = 0 :: List.replicate (8 - (k + 1)) 0 := by rw [show 8 - k = (8 - (k + 1)) + 1 by omega]; rfl
  rw [padK, List.set_append_right _ _ (by simp; omega), h1, show k - (L.take k).length = 0 by simp; omega, List.set_cons_zero, padK, ← take_more L h, List.append_assoc]
  rfl
theorem padK_at (L : List Int) (h8 : L.length ≤ 8) (j : Nat) : (padK L L.length).getD j 0 = L.getD j 0 := by
  simp only [padK, List.take_length, List.getD]
  rcases Nat.lt_or_ge j L.length with h | h
  · rw [List.getElem?_append_left h]
  · rw [List.getElem?_append_right h, List.getElem?_eq_none h, List.getElem?_replicate]
    split <;> rfl

theorem bdrew (w : World) : Below w.heap.size w w.drew := below_drewN (Below.refl _ _) 1
structure SRaw (x g g' : Nat) (u st zv : Value) (w' : World) : Prop where
  n : NewX x g g' u st w'
  c0 : w'.cell? ⟨g, 0, none⟩ = some zv
theorem SRaw.later {x g g' : Nat} {u st zv : Value} {w w' : World} (h : SRaw x g g' u st zv w) (hb : Below w.heap.size w w') : SRaw x g g' u st zv w' := ⟨h.n.later hb, below_cell hb h.c0⟩

set_option maxRecDepth 100000 in
set_option maxHeartbeats 6400000 in
theorem raw_c (x g g' : Nat) (u st zv wv bv : Value) (zs : List Int) (ws : List (List Int)) (bs : List Int) (nm : ByteArray) (sv : Value) (ps : List (Int × Int × Int)) (L : List Int) (w : World) (hN : NewX x g g' u st w)
    (c0 : w.cell? ⟨g, 0, none⟩ = some zv) (c1 : w.cell? ⟨g, 1, none⟩ = some wv) (c2 : w.cell? ⟨g, 2, none⟩ = some bv) (d0 : w.cell? ⟨g', 0, none⟩ = some (.string nm)) (d1 : w.cell? ⟨g', 1, none⟩ = some sv)
    (hz : Rd w zv zs.length (ints zs)) (hw : RdSS w wv ws) (hb : Rd w bv bs.length (ints bs)) (hr : Rd w sv ps.length (trips ps)) (hst : Rd w st L.length (ints L)) (hL8 : L.length ≤ 8) (hLb : ∀ k, 0 ≤ L.getD k 0 ∧ L.getD k 0 ≤ 20)
    (hmb : modelB zs ws bs = true) (hl1 : 1 ≤ ps.length) (hl2 : ps.length ≤ 32) (hal : ps.all ringT = true) (hal2 : (mapK (turnT zs L) ps ps.length).all ringT = true) (hzb : zonesB zs ((ps.length : Int) - 1) = true) :
    Calls Try.prog 81 #[.pointer (some ⟨x, 0, none⟩)] w (RetOwnI (rawL (mapK (turnT zs L) ps ps.length) zs ws bs) w) := by
  obtain ⟨hz1, hz8⟩ := zones_len hzb
  obtain ⟨i0, hi, hy0, hy1, hy2⟩ := info_parts info_int64
  have hpt : turnT zs (padK L L.length) = turnT zs L := turnT_congr (padK_at L hL8)
  have hpl := padK_len L (Nat.le_refl _) hL8
  have htu := fun w' v (hx : Below w.heap.size w w') (hv : Rd w' v (padK L L.length).length (ints (padK L L.length))) => l09Turned_c g' nm sv ps zv zs v (padK L L.length) w' (below_cell hx d0) (below_cell hx d1) (hr.later hx) (hz.later hx) hv hl1 hl2 hal (fun k hk => by have := zoneI_lt zs k hz1; omega) (fun k => by rw [padK_at L hL8]; have := hLb k; omega)
  rw [hpt] at htu
  have hql := mapK_len (turnT zs L) ps ps.length
  have hraw := fun w' g2 v (hx : Below w.heap.size w w') e1 (hv : Rd w' v (mapK (turnT zs L) ps ps.length).length (trips (mapK (turnT zs L) ps ps.length))) => l08Raw_c g g2 zv wv bv zs ws bs nm v (mapK (turnT zs L) ps ps.length) w' (below_cell hx c0) (below_cell hx c1) (below_cell hx c2) e1 (hz.later hx) (hw.later hx) (hb.later hx) hv hmb (by omega) (by omega) hal2 (by rw [hql]; exact hzb)
  generalize rawL (mapK (turnT zs L) ps ps.length) zs ws bs = RES at *
  generalize mapK (turnT zs L) ps ps.length = qs at *
  have hxw := hN.lt
  have hgw : g < w.heap.size := World.block_lt_of_cell? _ _ c0
  have hSR := fun w' (hx : Below w.heap.size w w') => (SRaw.mk hN c0).later hx
  obtain ⟨hnl, aol, capl, bl, offl, rfl, haol, hcelll⟩ := hst.open
  have hlen := fun k (hk : k ≤ L.length) => padK_len L hk hL8
  have hset := fun k (hk : k < L.length) => padK_set L hk hL8
  have hzero := padK_zero L
  have hst4 := fun w' (hx : Below w.heap.size w w') => below_cell hx hN.x4
  have hcl := fun w' (hx : Below w.heap.size w w') k (hk : k < L.length) => (hcelll w' hx k _ (by omega) (intsAt hk))
  have HTU := Lib.hid htu; clear htu
  have HRAW := Lib.hid hraw; clear hraw
  have HSR := Lib.hid hSR; clear hSR
  have HLEN := Lib.hid hlen; clear hlen
  have HSET := Lib.hid hset; clear hset
  have HST4 := Lib.hid hst4; clear hst4
  have HCL := Lib.hid hcl; clear hcl
  have HAOL := Lib.hid haol; clear haol
  clear hcelll hst hN c0 c1 c2 d0 d1 hz hw hb hr hal hal2 hpt hpl hql hmb hzb hLb
  go_enter Try.func81, Try.ntmps81
  go_wp2_with (at_make; refine wpList_make_full _ rfl _ _ 38 rfl w.heap.size 2 i0 (.int .i64 0) 1 Try.underlying38 hi hy0 hy1 _ _ _ _ 8 rfl rfl (by omega) (by omega) ?b2 ?b3 (Nat.le_refl _) ?_)
  case b2 => rw [hy2]; omega
  case b3 => unfold maxLen; omega
  intro w0 hown0 hg0
  rw [toList_madeCells_one] at hown0
  have hb0 : Below w.heap.size w w0 := (Below.refl _ _).grown hg0 (Nat.le_refl _) (fun k h => by cases h)
  have hown1 : OwnI w.heap.size w0 (.slice (some ⟨w.heap.size, 0, none⟩) 8 8) (padK L 0) := by
    rw [hzero]; unfold OwnI; simpa [ints] using hown0
  clear hown0 hg0
  have HOWN := Lib.hid hown1; clear hown1
  go_wp2_with fail
  go_loopw [4] (fun i wr => ∃ (k : Nat), k ≤ L.length ∧ i = .int .i64 k ∧ Below w.heap.size w wr ∧ OwnI w.heap.size wr (.slice (some ⟨w.heap.size, 0, none⟩) 8 8) (padK L k)) (fun i _ => L.length - (intOf i).toNat)
  case atStart => exact ⟨0, Nat.zero_le _, rfl, hb0, HOWN.out⟩
  case round =>
    clear HOWN hb0 w0
    obtain ⟨k, hk, rfl, hb, ho⟩ := hrel
    have e4 := HST4.out wr hb
    have hS := HSR.out wr hb
    have ho' : wr.ownsRow w.heap.size 2 1 (.slice (some ⟨w.heap.size, 0, none⟩) 8 8) 8 (ints (padK L k)) := by unfold OwnI at ho; rwa [HLEN.out k hk] at ho
    by_cases hlt : k < L.length
    · have hltd : decide (k < L.length) = true := decide_eq_true hlt
      obtain rfl := HAOL.out (by omega)
      have hix := ix (P := Try.prog) (T := 38) (n := L.length) (cap := capl) Try.underlying38 cells_int64 has_int64 (ao := some ⟨bl, offl, none⟩) (b := bl) (off := offl) (fun _ => rfl) (k := k) hlt _ rfl
      have hix2 := ix (P := Try.prog) (T := 38) (n := 8) (cap := 8) Try.underlying38 cells_int64 has_int64 (ao := some ⟨w.heap.size, 0, none⟩) (b := w.heap.size) (off := 0) (fun _ => rfl) (k := k) (by omega) _ rfl
      rw [Nat.mul_one] at hix hix2
      rw [Nat.zero_add] at hix2
      have hc := HCL.out wr hb k hlt
      rw [← getD_eq hlt] at hc
      have hfr := World.ownsRow.frozenAt ho' k
      have hc2 : ∃ y, wr.cell? ⟨w.heap.size, k, none⟩ = some (.int .i64 y) := ⟨_, (World.ownsRow.cellAt ho' k (by omega)).trans (intsAt (show k < (padK L k).length by rw [HLEN.out k hk]; omega))⟩
      obtain ⟨y, hc2⟩ := hc2
      have hput : OwnI w.heap.size (wr.setCell ⟨w.heap.size, k, none⟩ (.int .i64 (L.getD k 0))) (.slice (some ⟨w.heap.size, 0, none⟩) 8 8) (padK L (k + 1)) := by
        have hst := (World.ownsRow.stored ho' k (.int .i64 (L.getD k 0))).1
        rw [← HSET.out k hlt]
        unfold OwnI
        rw [List.length_set, HLEN.out k hk, show ints ((padK L k).set k (L.getD k 0)) = (ints (padK L k)).set k (.int .i64 (L.getD k 0)) by unfold ints; rw [List.map_set]]
        exact hst
      have hbp : Below w.heap.size w (wr.setCell ⟨w.heap.size, k, none⟩ (.int .i64 (L.getD k 0))) := hb.setCell (Nat.le_refl _) _
      have HPUT := Lib.hid hput; clear hput
      clear ho ho' hS
      generalize L.getD k 0 = y' at *
      go_wp2
      go_roundw
      case rel => exact ⟨k + 1, by omega, by go_num, hbp, HPUT.out⟩
      case measure => simp [intOf]; omega
    · obtain rfl : k = L.length := by omega
      have hltd : decide (L.length < L.length) = false := decide_eq_false (by omega)
      have HS := hS.later (bdrew wr)
      have hb := hb.drew
      have ho := own_later ho (bdrew wr)
      have HO := Lib.hid ho; clear ho
      clear hS ho'
      go_wp2_with fail
      clear e4
      refine startX (SRaw x g g' u (.slice aol L.length capl) zv) [14] (by kernel_rfl) ?_
      generalize wr.drew = wr at *
      refine takeX 0 26 (.pointer (some ⟨x, 0, none⟩)) rfl rfl (by kernel_rfl) (fun _ _ _ h => h) (by rfl) (fun _ _ => rfl) HS ?_
      simp only [List.setIfInBounds_toArray, List.set_cons_zero, List.set_cons_succ]
      refine takeX 1 27 (.pointer (some ⟨x, 0, none⟩)) rfl rfl (by kernel_rfl) (fun _ _ _ h => h) (by rfl) (fun _ _ => by (go_simp; done)) HS ?_
      simp only [List.setIfInBounds_toArray, List.set_cons_zero, List.set_cons_succ]
      refine takeX 2 28 (.pointer (some ⟨x, 1, none⟩)) rfl rfl (by kernel_rfl) (fun _ _ _ h => h) (by rfl) (fun _ _ => by (go_simp; done)) HS ?_
      simp only [List.setIfInBounds_toArray, List.set_cons_zero, List.set_cons_succ]
      refine takeX 3 29 (.pointer (some ⟨g', 0, none⟩)) rfl rfl (by kernel_rfl) (fun _ _ _ h => h) (by rfl) (fun w' hS => by (have q := hS.n; have q0 := q.x0; have q1 := q.x1; clear q hS HS; go_simp; done)) HS ?_
      simp only [List.setIfInBounds_toArray, List.set_cons_zero, List.set_cons_succ]
      refine takeX 4 30 (.pointer (some ⟨x, 0, none⟩)) rfl rfl (by kernel_rfl) (fun _ _ _ h => h) (by rfl) (fun _ _ => rfl) HS ?_
      simp only [List.setIfInBounds_toArray, List.set_cons_zero, List.set_cons_succ]
      refine takeX 5 31 (.pointer (some ⟨x, 0, none⟩)) rfl rfl (by kernel_rfl) (fun _ _ _ h => h) (by rfl) (fun _ _ => by (go_simp; done)) HS ?_
      simp only [List.setIfInBounds_toArray, List.set_cons_zero, List.set_cons_succ]
      refine takeX 6 32 (.pointer (some ⟨x, 0, none⟩)) rfl rfl (by kernel_rfl) (fun _ _ _ h => h) (by rfl) (fun _ _ => by (go_simp; done)) HS ?_
      simp only [List.setIfInBounds_toArray, List.set_cons_zero, List.set_cons_succ]
      refine takeX 7 33 (.pointer (some ⟨g, 0, none⟩)) rfl rfl (by kernel_rfl) (fun _ _ _ h => h) (by rfl) (fun w' hS => by (have q := hS.n; have q0 := q.x0; have q1 := q.x1; clear q hS HS; go_simp; done)) HS ?_
      simp only [List.setIfInBounds_toArray, List.set_cons_zero, List.set_cons_succ]
      refine takeX 8 34 (.pointer (some ⟨g, 0, none⟩)) rfl rfl (by kernel_rfl) (fun _ _ _ h => h) (by rfl) (fun _ _ => by (go_simp; done)) HS ?_
      simp only [List.setIfInBounds_toArray, List.set_cons_zero, List.set_cons_succ]
      refine takeX 9 35 (.pointer (some ⟨g, 0, none⟩)) rfl rfl (by kernel_rfl) (fun _ _ _ h => h) (by rfl) (fun _ _ => by (go_simp; done)) HS ?_
      simp only [List.setIfInBounds_toArray, List.set_cons_zero, List.set_cons_succ]
      refine takeX 10 36 (zv) rfl rfl (by kernel_rfl) (fun _ _ _ h => h) (by rfl) (fun w' hS => by (have q0 := hS.c0; clear hS HS; go_simp; done)) HS ?_
      simp only [List.setIfInBounds_toArray, List.set_cons_zero, List.set_cons_succ]
      refine takeX 11 37 (.slice (some ⟨w.heap.size, 0, none⟩) 8 8) rfl rfl (by kernel_rfl) (fun _ _ _ h => h) (by rfl) (fun _ _ => rfl) HS ?_
      simp only [List.setIfInBounds_toArray, List.set_cons_zero, List.set_cons_succ]
      refine stepX2 12 13 (by kernel_rfl) rfl rfl ?_ ?_
      · intro K hK
        go_simp
        refine (HTU.out _ _ hb (Rd.of_own HO.out)).mono ?_
        rintro _ wa ⟨v1, rfl, o1, q1⟩
        have o1 := own_base o1 hb.size
        have hb := hb.trans (q1.mono hb.size)
        have HS := HS.later q1
        obtain ⟨a1, p1, rfl⟩ := own_shape o1
        clear q1
        have O1 := Lib.hid o1; clear o1
        refine hK _ _ (fun _ => HS) ?_
        clear hK K
        have kb : Below wa.heap.size wa (wa.alloc (.cells #[.string ⟨#[]⟩, .slice none 0 0] 31)) := (Below.refl _ _).alloc (Nat.le_refl _) _
        have HS := HS.later kb
        clear HO
        refine stepX 13 (by kernel_rfl) rfl ?_
        intro K hK
        go_simp
        refine hK _ _ (fun _ => HS) ?_
        clear hK K
        refine stepX 14 (by kernel_rfl) rfl ?_
        intro K hK
        go_simp
        refine hK _ _ (fun h => absurd h (by decide)) ?_
        clear hK K
        refine doneX (by kernel_rfl) ?_ _
        clear HS kb
        have kb : Below wa.heap.size wa (wa.alloc (.cells #[.string nm, .slice a1 qs.length p1] 31)) := (Below.refl _ _).alloc (Nat.le_refl _) _
        have hx0 := (HSR.out wa hb).n.x0
        have hx0 := below_cell kb hx0
        have b9 : Below w.heap.size w (wa.alloc (.cells #[.string nm, .slice a1 qs.length p1] 31)) := hb.trans (kb.mono hb.size)
        have r1 := Rd.of_own (own_later O1.out kb)
        have e1 : (wa.alloc (.cells #[.string nm, .slice a1 qs.length p1] 31)).cell? ⟨wa.heap.size, 1, none⟩ = some (.slice a1 qs.length p1) := by simp [go_sem]
        generalize wa.alloc (.cells #[.string nm, .slice a1 qs.length p1] 31) = W1 at *
        have R1 := Lib.hid r1; clear r1
        have E1 := Lib.hid e1; clear e1
        clear O1 kb HSR HTU HST4 HCL
        go_wp2_with fail
        refine (HRAW.out _ wa.heap.size _ b9 E1.out R1.out).mono ?_
        rintro _ wz ⟨vz, rfl, oz, qz⟩
        have oz := own_base oz b9.size
        have b10 := b9.trans (qz.mono b9.size)
        have OZ := Lib.hid oz; clear oz
        go_wp2
        go_returns
        exact ⟨_, rfl, OZ.out, b10⟩
      · intro K hK
        go_simp
        have kb : Below wr.heap.size wr (wr.alloc (.cells #[.string ⟨#[]⟩, .slice none 0 0] 31)) := (Below.refl _ _).alloc (Nat.le_refl _) _
        have HS := HS.later kb
        have hb1 := hb.trans (kb.mono hb.size)
        have ho := own_later HO.out kb
        have hrl : w.heap.size + 1 ≤ wr.heap.size := own_lt HO.out w.heap.size rfl
        have k0 : (wr.alloc (.cells #[.string ⟨#[]⟩, .slice none 0 0] 31)).cell? ⟨wr.heap.size, 0, none⟩ = some (.string ⟨#[]⟩) := by simp [go_sem]
        have k1 : (wr.alloc (.cells #[.string ⟨#[]⟩, .slice none 0 0] 31)).cell? ⟨wr.heap.size, 1, none⟩ = some (.slice none 0 0) := by simp [go_sem]
        have kf : ∀ j, (wr.alloc (.cells #[.string ⟨#[]⟩, .slice none 0 0] 31)).frozen? ⟨wr.heap.size, j, none⟩ = false := fun j => by simp [go_sem]
        have ks : (wr.alloc (.cells #[.string ⟨#[]⟩, .slice none 0 0] 31)).heap.size = wr.heap.size + 1 := by simp
        clear HO kb
        have HO := Lib.hid ho; clear ho
        refine hK _ _ (fun _ => HS) ?_
        clear hK K
        generalize wr.alloc (.cells #[.string ⟨#[]⟩, .slice none 0 0] 31) = W1 at *
        refine stepX 12 (by kernel_rfl) rfl ?_
        intro K hK
        go_simp
        refine (HTU.out _ _ hb1 (Rd.of_own HO.out)).mono ?_
        rintro _ wb ⟨v1, rfl, o1, q1⟩
        have HS := HS.later q1
        have o1 := own_base o1 (Nat.le_of_eq ks.symm)
        have k2 := below_cell q1 k0
        have k3 := below_cell q1 k1
        have kf0 := (q1.frozen (p := ⟨wr.heap.size, 0, none⟩) (by show wr.heap.size < _; omega)).trans (kf 0)
        have kf1 := (q1.frozen (p := ⟨wr.heap.size, 1, none⟩) (by show wr.heap.size < _; omega)).trans (kf 1)
        have hb2 := hb1.trans (q1.mono hb1.size)
        obtain ⟨a1, p1, rfl⟩ := own_shape o1
        clear q1 k0 k1 kf HO
        have O1 := Lib.hid o1; clear o1
        refine hK _ _ (fun _ => HS) ?_
        clear hK K
        refine stepX 14 (by kernel_rfl) rfl ?_
        intro K hK
        go_simp
        refine hK _ _ (fun h => absurd h (by decide)) ?_
        clear hK K
        refine doneX (by kernel_rfl) ?_ _
        clear HS
        have hne : ∀ j, (Value.slice a1 qs.length p1).ownBlock = some j → wr.heap.size ≠ j := fun j e => by have := own_lo O1.out j e; omega
        have o2 := own_set (own_set O1.out (a := ⟨wr.heap.size, 0, none⟩) hne (.string nm)) (a := ⟨wr.heap.size, 1, none⟩) hne (.slice a1 qs.length p1)
        have b9 : Below w.heap.size w ((wb.setCell ⟨wr.heap.size, 0, none⟩ (.string nm)).setCell ⟨wr.heap.size, 1, none⟩ (.slice a1 qs.length p1)) := (hb2.setCell hb.size _).setCell hb.size _
        have r1 := Rd.of_own o2
        have e1 : ((wb.setCell ⟨wr.heap.size, 0, none⟩ (.string nm)).setCell ⟨wr.heap.size, 1, none⟩ (.slice a1 qs.length p1)).cell? ⟨wr.heap.size, 1, none⟩ = some (.slice a1 qs.length p1) := World.cell?_setCell_same _ _ _ (by rw [World.cell?_setCell_other _ _ _ _ (by simp)]; exact k3)
        clear k2 k3 kf0 kf1 hne o2
        generalize (wb.setCell ⟨wr.heap.size, 0, none⟩ (.string nm)).setCell ⟨wr.heap.size, 1, none⟩ (.slice a1 qs.length p1) = W2 at *
        have hx0 := (HSR.out W2 b9).n.x0
        have R1 := Lib.hid r1; clear r1
        have E1 := Lib.hid e1; clear e1
        clear O1 HSR HTU HST4 HCL
        go_wp2_with fail
        refine (HRAW.out _ wr.heap.size _ b9 E1.out R1.out).mono ?_
        rintro _ wz ⟨vz, rfl, oz, qz⟩
        have oz := own_base oz b9.size
        have b10 := b9.trans (qz.mono b9.size)
        have OZ := Lib.hid oz; clear oz
        go_wp2
        go_returns
        exact ⟨_, rfl, OZ.out, b10⟩

end Go.Proofs.Ytmeeibcbhjifbaa

/- The first partial that shows that there is no plan: the program. -/
namespace Go.Proofs.Ytmeeibcbhjifbaa
set_option linter.unusedVariables false
open Go.RowKit Go.Proofs.Bell Go.BigFrame

/-- the boxes of a model, a profile and a goal -/
structure H3 (g : Nat) (zv wv bv : Value) (nm : ByteArray) (sv : Value) (a b c d f t m : Int) (w' : World) : Prop where
  m0 : w'.cell? ⟨g, 0, none⟩ = some zv
  m1 : w'.cell? ⟨g, 1, none⟩ = some wv
  m2 : w'.cell? ⟨g, 2, none⟩ = some bv
  n0 : w'.cell? ⟨g + 1, 0, none⟩ = some (.string nm)
  n1 : w'.cell? ⟨g + 1, 1, none⟩ = some sv
  h : H6 (g + 1 + 1) a b c d f t w'
  p6 : w'.cell? ⟨g + 1 + 1, 6, none⟩ = some (.int .i64 m)
theorem H3.later {g : Nat} {zv wv bv : Value} {nm : ByteArray} {sv : Value} {a b c d f t m : Int} {w w' : World} (h : H3 g zv wv bv nm sv a b c d f t m w) (hb : Below w.heap.size w w') : H3 g zv wv bv nm sv a b c d f t m w' :=
  ⟨below_cell hb h.m0, below_cell hb h.m1, below_cell hb h.m2, below_cell hb h.n0, below_cell hb h.n1, h.h.later hb, below_cell hb h.p6⟩
/-- a goal's box and one number of a list -/
structure H8 (g : Nat) (a b c d f t m : Int) (l k : Nat) (x : Int) (w' : World) : Prop where
  h : H6 g a b c d f t w'
  p6 : w'.cell? ⟨g, 6, none⟩ = some (.int .i64 m)
  e : w'.cell? ⟨l, k, none⟩ = some (.int .i64 x)
theorem H8.later {g : Nat} {a b c d f t m : Int} {l k : Nat} {x : Int} {w w' : World} (h : H8 g a b c d f t m l k x w) (hb : Below w.heap.size w w') : H8 g a b c d f t m l k x w' :=
  ⟨h.h.later hb, below_cell hb h.p6, below_cell hb h.e⟩

theorem rawL_len (ps : List (Int × Int × Int)) (zs : List Int) (ws : List (List Int)) (bs : List Int) : (rawL ps zs ws bs).length = 5 := rawK_len _ _ _ _ 5
theorem sound_at {a b c d f : Int} (h : soundB a b c d f = true) (k : Nat) (hk : k < 5) : 1 ≤ [a, b, c, d, f].getD k 0 ∧ [a, b, c, d, f].getD k 0 ≤ 20000000 := by
  have h1 := List.all_eq_true.1 h k (List.mem_range.2 hk)
  simp only [riseAt, Bool.and_eq_true] at h1
  have := inB_t h1.1
  omega

set_option maxRecDepth 100000 in
set_option maxHeartbeats 6400000 in
theorem implBlockedBy_c (zv wv bv : Value) (zs : List Int) (ws : List (List Int)) (bs : List Int) (nm : ByteArray) (sv : Value) (ps : List (Int × Int × Int)) (a b c d f t m : Int) (w : World) (hz : Rd w zv zs.length (ints zs)) (hw : RdSS w wv ws) (hb : Rd w bv bs.length (ints bs)) (hnm : nm.size ≤ maxLen) (hr : Rd w sv ps.length (trips ps)) :
    Calls Try.prog 32 #[.agg #[zv, wv, bv], .agg #[.string nm, sv], .agg #[.int .i64 a, .int .i64 b, .int .i64 c, .int .i64 d, .int .i64 f, .int .i64 t, .int .i64 m]] w
      (RetB (.tuple #[.int .i64 (blkI zs ws bs nm ps a b c d f t m).1, .int .i64 (blkI zs ws bs nm ps a b c d f t m).2.1, .int .i64 (blkI zs ws bs nm ps a b c d f t m).2.2]) w) := by
  have hai := fun w' (hx : Below w.heap.size w w') => aimed_c zv wv bv zs ws bs nm sv ps a b c d f t m w' (hz.later hx) (hw.later hx) (hb.later hx) hnm (hr.later hx)
  by_cases t0 : ¬ goalAsk zs ws bs nm ps a b c d f t m = 0
  · have he : blkI zs ws bs nm ps a b c d f t m = (0, 0, goalAsk zs ws bs nm ps a b c d f t m) := by simp [blkI, t0]
    rw [he]
    generalize goalAsk zs ws bs nm ps a b c d f t m = code at *
    have HAI := Lib.hid hai; clear hai
    clear he hz hw hb hr
    go_enter Try.func32, Try.ntmps32
    have b0 : Below w.heap.size w w := Below.refl _ _
    have z0 : w.heap.size ≤ w.heap.size := Nat.le_refl _
    go_wp2_with fail
    refine (HAI.out _ (by go_grown)).mono ?_
    rintro _ w1 ⟨rfl, r1⟩
    have s1 : Below w.heap.size w w1 := Below.trans (by go_grown) (r1.mono (by simp; try omega))
    have b1 := b0.trans (s1.mono z0)
    have z1 := b1.size
    have y1 := s1.size
    have c0_0_1 := below_cell r1 (p := ⟨w.heap.size, 0, none⟩) (v := zv) (by simp [go_sem])
    have c0_1_1 := below_cell r1 (p := ⟨w.heap.size, 1, none⟩) (v := wv) (by simp [go_sem])
    have c0_2_1 := below_cell r1 (p := ⟨w.heap.size, 2, none⟩) (v := bv) (by simp [go_sem])
    have c1_0_1 := below_cell r1 (p := ⟨w.heap.size + 1, 0, none⟩) (v := .string nm) (by simp [go_sem])
    have c1_1_1 := below_cell r1 (p := ⟨w.heap.size + 1, 1, none⟩) (v := sv) (by simp [go_sem])
    have c2_0_1 := below_cell r1 (p := ⟨w.heap.size + 1 + 1, 0, none⟩) (v := .int .i64 a) (by simp [go_sem])
    have c2_1_1 := below_cell r1 (p := ⟨w.heap.size + 1 + 1, 1, none⟩) (v := .int .i64 b) (by simp [go_sem])
    have c2_2_1 := below_cell r1 (p := ⟨w.heap.size + 1 + 1, 2, none⟩) (v := .int .i64 c) (by simp [go_sem])
    have c2_3_1 := below_cell r1 (p := ⟨w.heap.size + 1 + 1, 3, none⟩) (v := .int .i64 d) (by simp [go_sem])
    have c2_4_1 := below_cell r1 (p := ⟨w.heap.size + 1 + 1, 4, none⟩) (v := .int .i64 f) (by simp [go_sem])
    have c2_5_1 := below_cell r1 (p := ⟨w.heap.size + 1 + 1, 5, none⟩) (v := .int .i64 t) (by simp [go_sem])
    have c2_6_1 := below_cell r1 (p := ⟨w.heap.size + 1 + 1, 6, none⟩) (v := .int .i64 m) (by simp [go_sem])
    clear r1
    go_wp2
    go_returns
    exact RetB.mk (rfl) b1
  · have t0 : goalAsk zs ws bs nm ps a b c d f t m = 0 := Classical.not_not.1 t0
    rw [t0] at hai
    obtain ⟨hgb, hma⟩ := goalAsk_ok t0
    obtain ⟨hsb, ht0, ht1, hm0⟩ := goalB_t hgb
    obtain ⟨m1, m2, m3⟩ := modAsk_ok hma
    obtain ⟨hl1, hl2, hal, hht⟩ := profB_t m2
    obtain ⟨hz1, hz8⟩ := zones_len m3
    have he : blkI zs ws bs nm ps a b c d f t m = blkF [a, b, c, d, f] (rawL ps zs ws bs) (rawL (mapK (turnT zs (limI nm ps zs m)) ps ps.length) zs ws bs) t 5 0 := by simp [blkI, t0]
    rw [he]
    generalize hRES : blkF [a, b, c, d, f] (rawL ps zs ws bs) (rawL (mapK (turnT zs (limI nm ps zs m)) ps ps.length) zs ws bs) t 5 0 = RES
    have hls := sound_at hsb
    have hlim := fun w' (hx : Below w.heap.size w w') => limits_c zv wv bv zs nm sv ps a b c d f t m w' (hz.later hx) hnm (hr.later hx) hl1 hl2 hal m3
    have htu := fun w' u (hx : Below w.heap.size w w') (hu : Rd w' u (limI nm ps zs m).length (ints (limI nm ps zs m))) => turned_c nm sv ps zv zs u (limI nm ps zs m) w' (hr.later hx) (hz.later hx) hu hl1 hl2 hal m3 (by rw [limI_len]; exact Nat.le_refl _) (fun k => by have := limI_bd nm ps zs m hm0 k; omega) (zs_zero m3) (fun _ _ h1 h2 h3 => zoneI_at m3 h1 h2 h3)
    have hal2 := lim_ring (nm := nm) (most := m) hm0 hz1 hal
    have hlen2 := mapK_len (turnT zs (limI nm ps zs m)) ps ps.length
    have hra := fun w' (hx : Below w.heap.size w w') => rawPartials_c zv wv bv zs ws bs nm sv ps w' (hz.later hx) (hw.later hx) (hb.later hx) (hr.later hx) m1 hl1 hl2 hal m3
    have hra2 := fun w' u (hx : Below w.heap.size w w') (hu : Rd w' u (mapK (turnT zs (limI nm ps zs m)) ps ps.length).length (trips (mapK (turnT zs (limI nm ps zs m)) ps ps.length))) => rawPartials_c zv wv bv zs ws bs nm u (mapK (turnT zs (limI nm ps zs m)) ps ps.length) w' (hz.later hx) (hw.later hx) (hb.later hx) hu m1 (by omega) (by omega) hal2 (by rw [hlen2]; exact m3)
    have hlb := rawL_len ps zs ws bs
    have hla := rawL_len (mapK (turnT zs (limI nm ps zs m)) ps ps.length) zs ws bs
    have htl := fun k x w' (hk : k < 5) => isTooLow_c a b c d f t m k x w' hk hls ht0 ht1
    have hth := fun k x w' (hk : k < 5) => isTooHigh_c a b c d f t m k x w' hk hls ht0 ht1
    clear hlen2 hal2 he hgb hma hsb m1 m2 m3 hal hht hls
    generalize rawL (mapK (turnT zs (limI nm ps zs m)) ps ps.length) zs ws bs = AF at *
    generalize mapK (turnT zs (limI nm ps zs m)) ps ps.length = qs at *
    generalize limI nm ps zs m = LM at *
    generalize rawL ps zs ws bs = BF at *
    generalize [a, b, c, d, f] = ls at *
    have hbs : ∀ k, k < 5 → blkF ls BF AF t (5 - k) k = if lowB (ls.getD k 0) (BF.getD k 0) t then ((k : Int) + 1, -1, 0) else if highB (ls.getD k 0) (AF.getD k 0) t then ((k : Int) + 1, 1, 0) else blkF ls BF AF t (5 - (k + 1)) (k + 1) := fun k hk => by rw [show 5 - k = (5 - (k + 1)) + 1 by omega]; rfl
    have HAI := Lib.hid hai; clear hai
    have HLIM := Lib.hid hlim; clear hlim
    have HTU := Lib.hid htu; clear htu
    have HRA := Lib.hid hra; clear hra
    have HRA2 := Lib.hid hra2; clear hra2
    have HTL := Lib.hid htl; clear htl
    have HTH := Lib.hid hth; clear hth
    have HLB := Lib.hid hlb; clear hlb
    have HLA := Lib.hid hla; clear hla
    have HBS := Lib.hid hbs; clear hbs
    have HRES := Lib.hid hRES; clear hRES
    clear hz hw hb hr t0
    go_enter Try.func32, Try.ntmps32
    have b0 : Below w.heap.size w w := Below.refl _ _
    have z0 : w.heap.size ≤ w.heap.size := Nat.le_refl _
    go_wp2_with fail
    refine (HAI.out _ (by go_grown)).mono ?_
    rintro _ w1 ⟨rfl, r1⟩
    have s1 : Below w.heap.size w w1 := Below.trans (by go_grown) (r1.mono (by simp; try omega))
    have b1 := b0.trans (s1.mono z0)
    have z1 := b1.size
    have y1 := s1.size
    have c0_0_1 := below_cell r1 (p := ⟨w.heap.size, 0, none⟩) (v := zv) (by simp [go_sem])
    have c0_1_1 := below_cell r1 (p := ⟨w.heap.size, 1, none⟩) (v := wv) (by simp [go_sem])
    have c0_2_1 := below_cell r1 (p := ⟨w.heap.size, 2, none⟩) (v := bv) (by simp [go_sem])
    have c1_0_1 := below_cell r1 (p := ⟨w.heap.size + 1, 0, none⟩) (v := .string nm) (by simp [go_sem])
    have c1_1_1 := below_cell r1 (p := ⟨w.heap.size + 1, 1, none⟩) (v := sv) (by simp [go_sem])
    have c2_0_1 := below_cell r1 (p := ⟨w.heap.size + 1 + 1, 0, none⟩) (v := .int .i64 a) (by simp [go_sem])
    have c2_1_1 := below_cell r1 (p := ⟨w.heap.size + 1 + 1, 1, none⟩) (v := .int .i64 b) (by simp [go_sem])
    have c2_2_1 := below_cell r1 (p := ⟨w.heap.size + 1 + 1, 2, none⟩) (v := .int .i64 c) (by simp [go_sem])
    have c2_3_1 := below_cell r1 (p := ⟨w.heap.size + 1 + 1, 3, none⟩) (v := .int .i64 d) (by simp [go_sem])
    have c2_4_1 := below_cell r1 (p := ⟨w.heap.size + 1 + 1, 4, none⟩) (v := .int .i64 f) (by simp [go_sem])
    have c2_5_1 := below_cell r1 (p := ⟨w.heap.size + 1 + 1, 5, none⟩) (v := .int .i64 t) (by simp [go_sem])
    have c2_6_1 := below_cell r1 (p := ⟨w.heap.size + 1 + 1, 6, none⟩) (v := .int .i64 m) (by simp [go_sem])
    clear r1
    have H0 : H3 w.heap.size zv wv bv nm sv a b c d f t m w1 := ⟨c0_0_1, c0_1_1, c0_2_1, c1_0_1, c1_1_1, ⟨c2_0_1, c2_1_1, c2_2_1, c2_3_1, c2_4_1, c2_5_1⟩, c2_6_1⟩
    have HS := H0.later (below_drewN (Below.refl _ _) 1)
    have bd : Below w.heap.size w w1.drew := b1.drew
    clear H0
    go_wp2_with fail
    refine wp_region_held (S := H3 w.heap.size zv wv bv nm sv a b c d f t m) (by kernel_rfl) ?_
    change wpAnyH _ _ _ _ _ _ _ _ w1.drew
    refine takeH 0 20 (.agg #[zv, wv, bv]) rfl rfl (by kernel_rfl) (fun _ _ _ h => h) (by rfl) (fun w' hS => by (have q0 := hS.m0; have q1 := hS.m1; have q2 := hS.m2; clear hS HS; go_simp; done)) HS ?_
    simp only [List.setIfInBounds_toArray, List.set_cons_zero, List.set_cons_succ]
    refine takeH 1 21 (.agg #[.string nm, sv]) rfl rfl (by kernel_rfl) (fun _ _ _ h => h) (by rfl) (fun w' hS => by (have q0 := hS.n0; have q1 := hS.n1; clear hS HS; go_simp; done)) HS ?_
    simp only [List.setIfInBounds_toArray, List.set_cons_zero, List.set_cons_succ]
    refine takeH 3 23 (.agg #[zv, wv, bv]) rfl rfl (by kernel_rfl) (fun _ _ _ h => h) (by rfl) (fun w' hS => by (have q0 := hS.m0; have q1 := hS.m1; have q2 := hS.m2; clear hS HS; go_simp; done)) HS ?_
    simp only [List.setIfInBounds_toArray, List.set_cons_zero, List.set_cons_succ]
    refine takeH 4 24 (.agg #[.string nm, sv]) rfl rfl (by kernel_rfl) (fun _ _ _ h => h) (by rfl) (fun w' hS => by (have q0 := hS.n0; have q1 := hS.n1; clear hS HS; go_simp; done)) HS ?_
    simp only [List.setIfInBounds_toArray, List.set_cons_zero, List.set_cons_succ]
    refine takeH 5 25 (.pointer (some ⟨w.heap.size, 0, none⟩)) rfl rfl (by kernel_rfl) (fun _ _ _ h => h) (by rfl) (fun _ _ => by (go_simp; done)) HS ?_
    simp only [List.setIfInBounds_toArray, List.set_cons_zero, List.set_cons_succ]
    refine takeH 6 26 (zv) rfl rfl (by kernel_rfl) (fun _ _ _ h => h) (by rfl) (fun w' hS => by (have q0 := hS.m0; have q1 := hS.m1; have q2 := hS.m2; clear hS HS; go_simp; done)) HS ?_
    simp only [List.setIfInBounds_toArray, List.set_cons_zero, List.set_cons_succ]
    refine takeH 7 27 (.agg #[zv, wv, bv]) rfl rfl (by kernel_rfl) (fun _ _ _ h => h) (by rfl) (fun w' hS => by (have q0 := hS.m0; have q1 := hS.m1; have q2 := hS.m2; clear hS HS; go_simp; done)) HS ?_
    simp only [List.setIfInBounds_toArray, List.set_cons_zero, List.set_cons_succ]
    refine takeH 8 28 (.agg #[.string nm, sv]) rfl rfl (by kernel_rfl) (fun _ _ _ h => h) (by rfl) (fun w' hS => by (have q0 := hS.n0; have q1 := hS.n1; clear hS HS; go_simp; done)) HS ?_
    simp only [List.setIfInBounds_toArray, List.set_cons_zero, List.set_cons_succ]
    refine takeH 9 29 (.agg #[.int .i64 a, .int .i64 b, .int .i64 c, .int .i64 d, .int .i64 f, .int .i64 t, .int .i64 m]) rfl rfl (by kernel_rfl) (fun _ _ _ h => h) (by rfl) (fun w' hS => by (have q := hS.h; have q0 := q.p0; have q1 := q.p1; have q2 := q.p2; have q3 := q.p3; have q4 := q.p4; have q5 := q.p5; have q6 := hS.p6; clear q hS HS; go_simp; done)) HS ?_
    simp only [List.setIfInBounds_toArray, List.set_cons_zero, List.set_cons_succ]
    refine stepH 2 (by kernel_rfl) rfl ?_
    intro K hK
    go_simp
    refine (HRA.out _ bd).mono ?_
    rintro _ wa ⟨va, rfl, na, qa⟩
    have b2 := bd.trans (qa.mono bd.size)
    have HS := HS.later qa
    clear qa bd
    have NA := Lib.hid na; clear na
    refine hK _ _ HS ?_
    clear hK K
    refine stepH 10 (by kernel_rfl) rfl ?_
    intro K hK
    go_simp
    refine (HLIM.out _ b2).mono ?_
    rintro _ wb ⟨vb, rfl, nb, qb⟩
    have b3 := b2.trans (qb.mono b2.size)
    have HS := HS.later qb
    have na := own_later NA.out qb
    clear NA qb b2
    have NA := Lib.hid na; clear na
    have NB := Lib.hid nb; clear nb
    refine hK _ _ HS ?_
    clear hK K
    refine stepH 11 (by kernel_rfl) rfl ?_
    intro K hK
    go_simp
    refine (HTU.out _ _ b3 (Rd.of_own NB.out)).mono ?_
    rintro _ wc ⟨vc, rfl, nc, qc⟩
    have b4 := b3.trans (qc.mono b3.size)
    have HS := HS.later qc
    have na := own_later NA.out qc
    clear NA qc b3 NB
    have NA := Lib.hid na; clear na
    have NC := Lib.hid nc; clear nc
    refine hK _ _ HS ?_
    clear hK K
    refine stepH 12 (by kernel_rfl) rfl ?_
    intro K hK
    go_simp
    refine (HRA2.out _ _ b4 (Rd.of_own NC.out)).mono ?_
    rintro _ wd ⟨vd, rfl, nd, qd⟩
    have b5 := b4.trans (qd.mono b4.size)
    have HS := HS.later qd
    have na := own_later NA.out qd
    clear NA qd b4 NC
    have NA := Lib.hid na; clear na
    have ND := Lib.hid nd; clear nd
    refine hK _ _ HS ?_
    clear hK K
    refine takeH 13 10 (va) rfl rfl (by kernel_rfl) (fun _ _ _ h => h) (by rfl) (fun _ _ => rfl) HS ?_
    simp only [List.setIfInBounds_toArray, List.set_cons_zero, List.set_cons_succ]
    refine takeH 14 11 (vd) rfl rfl (by kernel_rfl) (fun _ _ _ h => h) (by rfl) (fun _ _ => rfl) HS ?_
    simp only [List.setIfInBounds_toArray, List.set_cons_zero, List.set_cons_succ]
    refine doneH (by kernel_rfl) ?_
    have na := NA.out
    have nd := ND.out
    clear NA ND HLIM HTU HRA HRA2 HAI
    obtain ⟨ga, ca, rfl, hga1, hga2⟩ := World.ownsRow.form na (by rw [HLB.out]; decide)
    obtain ⟨gd, cd, rfl, hgd1, hgd2⟩ := World.ownsRow.form nd (by rw [HLA.out]; decide)
    have hca := fun k (hk : k < 5) => (World.ownsRow.cellAt na k (by rw [HLB.out]; omega)).trans (intsAt (by rw [HLB.out]; exact hk))
    have hcd := fun k (hk : k < 5) => (World.ownsRow.cellAt nd k (by rw [HLA.out]; omega)).trans (intsAt (by rw [HLA.out]; exact hk))
    have hla0 := HLA.out
    have hlb0 := HLB.out
    have hca' : ∀ k, k < 5 → wd.cell? ⟨ga, k, none⟩ = some (.int .i64 (BF.getD k 0)) := fun k hk => by rw [getD_eq (show k < BF.length by omega)]; exact hca k hk
    have hcd' : ∀ k, k < 5 → wd.cell? ⟨gd, k, none⟩ = some (.int .i64 (AF.getD k 0)) := fun k hk => by rw [getD_eq (show k < AF.length by omega)]; exact hcd k hk
    have hH := HS.h
    have hp6 := HS.p6
    have HCA := Lib.hid hca'; clear hca'
    have HCD := Lib.hid hcd'; clear hcd'
    have HH := Lib.hid hH; clear hH
    have HP6 := Lib.hid hp6; clear hp6
    clear hca hcd na nd HS HLA HLB
    rw [hlb0, hla0]
    clear hlb0 hla0
    have hRES := HRES.out
    clear HRES
    go_wp2_with fail
    go_loopw [35] (fun i wr => ∃ (k : Nat), k ≤ 5 ∧ i = .int .i64 k ∧ Below wd.heap.size wd wr ∧ blkF ls BF AF t (5 - k) k = RES) (fun i _ => 5 - (intOf i).toNat)
    case atStart => exact ⟨0, Nat.zero_le _, rfl, Below.refl _ _, hRES⟩
    case round =>
      obtain ⟨k, hk, rfl, hb6, hre⟩ := hrel
      have b6 := b5.trans (hb6.mono b5.size)
      by_cases hlt : k < 5
      · have hltd : decide (k < 5) = true := decide_eq_true hlt
        rw [HBS.out k hlt] at hre
        have htl := fun w' => HTL.out k (BF.getD k 0) w' hlt
        have hth := fun w' => HTH.out k (AF.getD k 0) w' hlt
        have e1 := below_cell hb6 (HCA.out k hlt)
        have e2 := below_cell hb6 (HCD.out k hlt)
        have hg1 := HH.out.later hb6
        have hg6 := below_cell hb6 HP6.out
        have hix := ix (P := Try.prog) (T := 38) (n := 5) (cap := ca) Try.underlying38 cells_int64 has_int64 (ao := some ⟨ga, 0, none⟩) (b := ga) (off := 0) (fun _ => rfl) (k := k) hlt _ rfl
        have hix2 := ix (P := Try.prog) (T := 38) (n := 5) (cap := cd) Try.underlying38 cells_int64 has_int64 (ao := some ⟨gd, 0, none⟩) (b := gd) (off := 0) (fun _ => rfl) (k := k) hlt _ rfl
        rw [Nat.mul_one, Nat.zero_add] at hix hix2
        generalize lowB (ls.getD k 0) (BF.getD k 0) t = lo at *
        generalize highB (ls.getD k 0) (AF.getD k 0) t = hi at *
        generalize BF.getD k 0 = x1 at *
        generalize AF.getD k 0 = x2 at *
        have HS : H8 (w.heap.size + 1 + 1) a b c d f t m ga k x1 wr.drew := (H8.mk hg1 hg6 e1).later (below_drewN (Below.refl _ _) 1)
        have HTL1 := Lib.hid htl; clear htl
        have HTH1 := Lib.hid hth; clear hth
        have HRE := Lib.hid hre; clear hre
        have E2 := Lib.hid e2; clear e2
        have HG1 := Lib.hid hg1; clear hg1
        have HG6 := Lib.hid hg6; clear hg6
        clear e1
        have b7 : Below wr.heap.size wr wr.drew := below_drewN (Below.refl _ _) 1
        go_wp2_with fail
        refine wp_region_held (S := H8 (w.heap.size + 1 + 1) a b c d f t m ga k x1) (by kernel_rfl) ?_
        change wpAnyH _ _ _ _ _ _ _ _ wr.drew
        refine takeH 0 39 (.agg #[.int .i64 a, .int .i64 b, .int .i64 c, .int .i64 d, .int .i64 f, .int .i64 t, .int .i64 m]) rfl rfl (by kernel_rfl) (fun _ _ _ h => h) (by rfl) (fun w' hS => by (have q := hS.h; have q0 := q.p0; have q1 := q.p1; have q2 := q.p2; have q3 := q.p3; have q4 := q.p4; have q5 := q.p5; have q6 := hS.p6; clear q hS HS; go_simp; done)) HS ?_
        simp only [List.setIfInBounds_toArray, List.set_cons_zero, List.set_cons_succ]
        refine takeH 1 40 (.int .i64 k) rfl rfl (by kernel_rfl) (fun _ _ _ h => h) (by rfl) (fun _ _ => rfl) HS ?_
        simp only [List.setIfInBounds_toArray, List.set_cons_zero, List.set_cons_succ]
        refine takeH 2 41 (.slice (some ⟨ga, 0, none⟩) 5 ca) rfl rfl (by kernel_rfl) (fun _ _ _ h => h) (by rfl) (fun _ _ => rfl) HS ?_
        simp only [List.setIfInBounds_toArray, List.set_cons_zero, List.set_cons_succ]
        refine takeH 3 42 (.int .i64 k) rfl rfl (by kernel_rfl) (fun _ _ _ h => h) (by rfl) (fun _ _ => rfl) HS ?_
        simp only [List.setIfInBounds_toArray, List.set_cons_zero, List.set_cons_succ]
        refine takeH 4 43 (.pointer (some ⟨ga, k, none⟩)) rfl rfl (by kernel_rfl) (fun _ _ _ h => h) (by rfl) (fun _ _ => by (go_simp; done)) HS ?_
        simp only [List.setIfInBounds_toArray, List.set_cons_zero, List.set_cons_succ]
        refine takeH 5 44 (.int .i64 x1) rfl rfl (by kernel_rfl) (fun _ _ _ h => h) (by rfl) (fun w' hS => by (have q7 := hS.e; clear hS HS; go_simp; done)) HS ?_
        simp only [List.setIfInBounds_toArray, List.set_cons_zero, List.set_cons_succ]
        refine stepH 6 (by kernel_rfl) rfl ?_
        intro K hK
        go_simp
        refine (HTL1.out _).mono ?_
        rintro _ we ⟨rfl, qe⟩
        have HS := HS.later qe
        have b8 : Below wr.heap.size wr we := b7.trans (qe.mono b7.size)
        clear qe b7
        refine hK _ _ HS ?_
        clear hK K
        refine stepH 7 (by kernel_rfl) rfl ?_
        intro K hK
        go_simp
        refine hK _ _ HS ?_
        clear hK K
        refine doneH (by kernel_rfl) ?_
        clear HS
        cases lo
        · have e2 := below_cell b8 E2.out
          have hg1 := HG1.out.later b8
          have hg6 := below_cell b8 HG6.out
          have HS : H8 (w.heap.size + 1 + 1) a b c d f t m gd k x2 we.drew := (H8.mk hg1 hg6 e2).later (below_drewN (Below.refl _ _) 1)
          have b9 : Below wr.heap.size wr we.drew := b8.drew
          clear e2 hg1 hg6 E2 HG1 HG6
          go_wp2_with fail
          refine wp_region_held (S := H8 (w.heap.size + 1 + 1) a b c d f t m gd k x2) (by kernel_rfl) ?_
          change wpAnyH _ _ _ _ _ _ _ _ we.drew
          refine takeH 0 49 (.agg #[.int .i64 a, .int .i64 b, .int .i64 c, .int .i64 d, .int .i64 f, .int .i64 t, .int .i64 m]) rfl rfl (by kernel_rfl) (fun _ _ _ h => h) (by rfl) (fun w' hS => by (have q := hS.h; have q0 := q.p0; have q1 := q.p1; have q2 := q.p2; have q3 := q.p3; have q4 := q.p4; have q5 := q.p5; have q6 := hS.p6; clear q hS HS; go_simp; done)) HS ?_
          simp only [List.setIfInBounds_toArray, List.set_cons_zero, List.set_cons_succ]
          refine takeH 1 50 (.int .i64 k) rfl rfl (by kernel_rfl) (fun _ _ _ h => h) (by rfl) (fun _ _ => rfl) HS ?_
          simp only [List.setIfInBounds_toArray, List.set_cons_zero, List.set_cons_succ]
          refine takeH 2 51 (.slice (some ⟨gd, 0, none⟩) 5 cd) rfl rfl (by kernel_rfl) (fun _ _ _ h => h) (by rfl) (fun _ _ => rfl) HS ?_
          simp only [List.setIfInBounds_toArray, List.set_cons_zero, List.set_cons_succ]
          refine takeH 3 52 (.int .i64 k) rfl rfl (by kernel_rfl) (fun _ _ _ h => h) (by rfl) (fun _ _ => rfl) HS ?_
          simp only [List.setIfInBounds_toArray, List.set_cons_zero, List.set_cons_succ]
          refine takeH 4 53 (.pointer (some ⟨gd, k, none⟩)) rfl rfl (by kernel_rfl) (fun _ _ _ h => h) (by rfl) (fun _ _ => by (go_simp; done)) HS ?_
          simp only [List.setIfInBounds_toArray, List.set_cons_zero, List.set_cons_succ]
          refine takeH 5 54 (.int .i64 x2) rfl rfl (by kernel_rfl) (fun _ _ _ h => h) (by rfl) (fun w' hS => by (have q7 := hS.e; clear hS HS; go_simp; done)) HS ?_
          simp only [List.setIfInBounds_toArray, List.set_cons_zero, List.set_cons_succ]
          refine stepH 6 (by kernel_rfl) rfl ?_
          intro K hK
          go_simp
          refine (HTH1.out _).mono ?_
          rintro _ wf ⟨rfl, qf⟩
          have HS := HS.later qf
          have bA : Below wr.heap.size wr wf := b9.trans (qf.mono b9.size)
          clear qf b9 b8
          refine hK _ _ HS ?_
          clear hK K
          refine stepH 7 (by kernel_rfl) rfl ?_
          intro K hK
          go_simp
          refine hK _ _ HS ?_
          clear hK K
          refine doneH (by kernel_rfl) ?_
          clear HS
          have hb7 := hb6.trans (bA.mono hb6.size)
          cases hi
          · have hre := HRE.out
            simp only [Bool.false_eq_true, if_false] at hre
            have HRE2 := Lib.hid hre; clear hre
            go_wp2
            go_roundw
            case rel => exact ⟨k + 1, by omega, by go_num, hb7, HRE2.out⟩
            case measure => simp [intOf]; omega
          · have hre := HRE.out
            simp only [Bool.false_eq_true, if_false, if_true] at hre
            have b9 := b6.trans (bA.mono b6.size)
            subst hre
            go_wp2
            go_returns
            exact RetB.mk (by go_num) b9
        · have hre := HRE.out
          simp only [if_true] at hre
          have b9 := b6.trans (b8.mono b6.size)
          subst hre
          go_wp2
          go_returns
          exact RetB.mk (by go_num) b9
      · obtain rfl : k = 5 := by omega
        have hltd : decide (5 < 5) = false := rfl
        have hre : (0, 0, 0) = RES := hre
        subst hre
        go_wp2
        go_returns
        exact RetB.mk rfl b6

end Go.Proofs.Ytmeeibcbhjifbaa

/- The first partial that shows that there is no plan: the reference. -/
namespace Go.Proofs.Ytmeeibcbhjifbaa
set_option linter.unusedVariables false
open Go.RowKit Go.Proofs.Bell Go.BigFrame

set_option maxRecDepth 100000 in
set_option maxHeartbeats 6400000 in
theorem specBlockedBy_c (zv wv bv : Value) (zs : List Int) (ws : List (List Int)) (bs : List Int) (nm : ByteArray) (sv : Value) (ps : List (Int × Int × Int)) (a b c d f t m : Int) (w : World) (hz : Rd w zv zs.length (ints zs)) (hw : RdSS w wv ws) (hb : Rd w bv bs.length (ints bs)) (hnm : nm.size ≤ maxLen) (hr : Rd w sv ps.length (trips ps)) :
    Calls Try.prog 30 #[.agg #[zv, wv, bv], .agg #[.string nm, sv], .agg #[.int .i64 a, .int .i64 b, .int .i64 c, .int .i64 d, .int .i64 f, .int .i64 t, .int .i64 m]] w
      (RetB (.tuple #[.int .i64 (blkI zs ws bs nm ps a b c d f t m).1, .int .i64 (blkI zs ws bs nm ps a b c d f t m).2.1, .int .i64 (blkI zs ws bs nm ps a b c d f t m).2.2]) w) := by
  have hai := fun w' g g' g'' c0 c1 c2 d0 d1 hG h6 (hx : Below w.heap.size w w') => l10Ask_c g g' g'' zv wv bv zs ws bs nm sv ps a b c d f t m w' c0 c1 c2 d0 d1 hG h6 (hz.later hx) (hw.later hx) (hb.later hx) hnm (hr.later hx)
  by_cases t0 : ¬ goalAsk zs ws bs nm ps a b c d f t m = 0
  · have he : blkI zs ws bs nm ps a b c d f t m = (0, 0, goalAsk zs ws bs nm ps a b c d f t m) := by simp [blkI, t0]
    rw [he]
    generalize goalAsk zs ws bs nm ps a b c d f t m = code at *
    have HAI := Lib.hid hai; clear hai
    clear he hz hw hb hr
    go_enter Try.func30, Try.ntmps30
    have b0 : Below w.heap.size w w := Below.refl _ _
    have z0 : w.heap.size ≤ w.heap.size := Nat.le_refl _
    go_wp2_with fail
    refine (HAI.out _ w.heap.size (w.heap.size + 1) (w.heap.size + 1 + 1) (by simp [go_sem]) (by simp [go_sem]) (by simp [go_sem]) (by simp [go_sem]) (by simp [go_sem]) (by constructor <;> simp [go_sem]) (by simp [go_sem]) (by go_grown)).mono ?_
    rintro _ w1 ⟨rfl, r1⟩
    have s1 : Below w.heap.size w w1 := Below.trans (by go_grown) (r1.mono (by simp; try omega))
    have b1 := b0.trans (s1.mono z0)
    have z1 := b1.size
    have y1 := s1.size
    have c0_0_1 := below_cell r1 (p := ⟨w.heap.size, 0, none⟩) (v := zv) (by simp [go_sem])
    have c0_1_1 := below_cell r1 (p := ⟨w.heap.size, 1, none⟩) (v := wv) (by simp [go_sem])
    have c0_2_1 := below_cell r1 (p := ⟨w.heap.size, 2, none⟩) (v := bv) (by simp [go_sem])
    have c1_0_1 := below_cell r1 (p := ⟨w.heap.size + 1, 0, none⟩) (v := .string nm) (by simp [go_sem])
    have c1_1_1 := below_cell r1 (p := ⟨w.heap.size + 1, 1, none⟩) (v := sv) (by simp [go_sem])
    have c2_0_1 := below_cell r1 (p := ⟨w.heap.size + 1 + 1, 0, none⟩) (v := .int .i64 a) (by simp [go_sem])
    have c2_1_1 := below_cell r1 (p := ⟨w.heap.size + 1 + 1, 1, none⟩) (v := .int .i64 b) (by simp [go_sem])
    have c2_2_1 := below_cell r1 (p := ⟨w.heap.size + 1 + 1, 2, none⟩) (v := .int .i64 c) (by simp [go_sem])
    have c2_3_1 := below_cell r1 (p := ⟨w.heap.size + 1 + 1, 3, none⟩) (v := .int .i64 d) (by simp [go_sem])
    have c2_4_1 := below_cell r1 (p := ⟨w.heap.size + 1 + 1, 4, none⟩) (v := .int .i64 f) (by simp [go_sem])
    have c2_5_1 := below_cell r1 (p := ⟨w.heap.size + 1 + 1, 5, none⟩) (v := .int .i64 t) (by simp [go_sem])
    have c2_6_1 := below_cell r1 (p := ⟨w.heap.size + 1 + 1, 6, none⟩) (v := .int .i64 m) (by simp [go_sem])
    clear r1
    go_wp2
    go_returns
    exact RetB.mk (rfl) b1
  · have t0 : goalAsk zs ws bs nm ps a b c d f t m = 0 := Classical.not_not.1 t0
    rw [t0] at hai
    obtain ⟨hgb, hma⟩ := goalAsk_ok t0
    obtain ⟨hsb, ht0, ht1, hm0⟩ := goalB_t hgb
    obtain ⟨m1, m2, m3⟩ := modAsk_ok hma
    obtain ⟨hl1, hl2, hal, hht⟩ := profB_t m2
    obtain ⟨hz1, hz8⟩ := zones_len m3
    have he : blkI zs ws bs nm ps a b c d f t m = blkF [a, b, c, d, f] (rawL ps zs ws bs) (rawL (mapK (turnT zs (limI nm ps zs m)) ps ps.length) zs ws bs) t 5 0 := by simp [blkI, t0]
    rw [he]
    generalize hRES : blkF [a, b, c, d, f] (rawL ps zs ws bs) (rawL (mapK (turnT zs (limI nm ps zs m)) ps ps.length) zs ws bs) t 5 0 = RES
    have hls := sound_at hsb
    have hnew := fun w' g g' g'' c0 d0 d1 h6 (hx : Below w.heap.size w w') => l10New_c g g' g'' zv wv bv zs nm sv ps m w' c0 d0 d1 h6 (hz.later hx) hnm (hr.later hx) hl1 hl2 hal m3
    have hlim := limI_len nm ps zs m
    have hlb0 := limI_bd nm ps zs m hm0
    have hal2 := lim_ring (nm := nm) (most := m) hm0 hz1 hal
    have hr0 := fun w' x g g' u (hN : NewX x g g' u (.slice none 0 0) w') c0 c1 c2 d0 d1 (hx : Below w.heap.size w w') => raw_c x g g' u (.slice none 0 0) zv wv bv zs ws bs nm sv ps [] w' hN c0 c1 c2 d0 d1 (hz.later hx) (hw.later hx) (hb.later hx) (hr.later hx) (Rd.of_own (World.ownsRow_nil w' 0 2 1)) (by simp) (fun k => by simp) m1 hl1 hl2 hal (by rw [turn_none]; exact hal) m3
    rw [turn_none] at hr0
    have hr2 := fun w' x g g' u st (hN : NewX x g g' u st w') c0 c1 c2 d0 d1 (hx : Below w.heap.size w w') (hst : Rd w' st (limI nm ps zs m).length (ints (limI nm ps zs m))) => raw_c x g g' u st zv wv bv zs ws bs nm sv ps (limI nm ps zs m) w' hN c0 c1 c2 d0 d1 (hz.later hx) (hw.later hx) (hb.later hx) (hr.later hx) hst (by omega) hlb0 m1 hl1 hl2 hal hal2 m3
    have hlb := rawL_len ps zs ws bs
    have hla := rawL_len (mapK (turnT zs (limI nm ps zs m)) ps ps.length) zs ws bs
    have htl := fun g k x w' (hS : H6 g a b c d f t w') (hk : k < 5) => l10Low_c g a b c d f t k x w' hS hk hls ht0 ht1
    have hth := fun g k x w' (hS : H6 g a b c d f t w') (hk : k < 5) => l10High_c g a b c d f t k x w' hS hk hls ht0 ht1
    clear hal2 he hgb hma hsb m1 m2 m3 hal hht hls hlb0 hlim
    generalize rawL (mapK (turnT zs (limI nm ps zs m)) ps ps.length) zs ws bs = AF at *
    generalize limI nm ps zs m = LM at *
    generalize rawL ps zs ws bs = BF at *
    generalize [a, b, c, d, f] = ls at *
    have hbs : ∀ k, k < 5 → blkF ls BF AF t (5 - k) k = if lowB (ls.getD k 0) (BF.getD k 0) t then ((k : Int) + 1, -1, 0) else if highB (ls.getD k 0) (AF.getD k 0) t then ((k : Int) + 1, 1, 0) else blkF ls BF AF t (5 - (k + 1)) (k + 1) := fun k hk => by rw [show 5 - k = (5 - (k + 1)) + 1 by omega]; rfl
    have HAI := Lib.hid hai; clear hai
    have HNEW := Lib.hid hnew; clear hnew
    have HR0 := Lib.hid hr0; clear hr0
    have HR2 := Lib.hid hr2; clear hr2
    have HTL := Lib.hid htl; clear htl
    have HTH := Lib.hid hth; clear hth
    have HLB := Lib.hid hlb; clear hlb
    have HLA := Lib.hid hla; clear hla
    have HBS := Lib.hid hbs; clear hbs
    have HRES := Lib.hid hRES; clear hRES
    clear hz hw hb hr t0
    go_enter Try.func30, Try.ntmps30
    have b0 : Below w.heap.size w w := Below.refl _ _
    have z0 : w.heap.size ≤ w.heap.size := Nat.le_refl _
    go_wp2_with fail
    refine (HAI.out _ w.heap.size (w.heap.size + 1) (w.heap.size + 1 + 1) (by simp [go_sem]) (by simp [go_sem]) (by simp [go_sem]) (by simp [go_sem]) (by simp [go_sem]) (by constructor <;> simp [go_sem]) (by simp [go_sem]) (by go_grown)).mono ?_
    rintro _ w1 ⟨rfl, r1⟩
    have s1 : Below w.heap.size w w1 := Below.trans (by go_grown) (r1.mono (by simp; try omega))
    have b1 := b0.trans (s1.mono z0)
    have z1 := b1.size
    have y1 := s1.size
    have c0_0_1 := below_cell r1 (p := ⟨w.heap.size, 0, none⟩) (v := zv) (by simp [go_sem])
    have c0_1_1 := below_cell r1 (p := ⟨w.heap.size, 1, none⟩) (v := wv) (by simp [go_sem])
    have c0_2_1 := below_cell r1 (p := ⟨w.heap.size, 2, none⟩) (v := bv) (by simp [go_sem])
    have c1_0_1 := below_cell r1 (p := ⟨w.heap.size + 1, 0, none⟩) (v := .string nm) (by simp [go_sem])
    have c1_1_1 := below_cell r1 (p := ⟨w.heap.size + 1, 1, none⟩) (v := sv) (by simp [go_sem])
    have c2_0_1 := below_cell r1 (p := ⟨w.heap.size + 1 + 1, 0, none⟩) (v := .int .i64 a) (by simp [go_sem])
    have c2_1_1 := below_cell r1 (p := ⟨w.heap.size + 1 + 1, 1, none⟩) (v := .int .i64 b) (by simp [go_sem])
    have c2_2_1 := below_cell r1 (p := ⟨w.heap.size + 1 + 1, 2, none⟩) (v := .int .i64 c) (by simp [go_sem])
    have c2_3_1 := below_cell r1 (p := ⟨w.heap.size + 1 + 1, 3, none⟩) (v := .int .i64 d) (by simp [go_sem])
    have c2_4_1 := below_cell r1 (p := ⟨w.heap.size + 1 + 1, 4, none⟩) (v := .int .i64 f) (by simp [go_sem])
    have c2_5_1 := below_cell r1 (p := ⟨w.heap.size + 1 + 1, 5, none⟩) (v := .int .i64 t) (by simp [go_sem])
    have c2_6_1 := below_cell r1 (p := ⟨w.heap.size + 1 + 1, 6, none⟩) (v := .int .i64 m) (by simp [go_sem])
    clear r1
    have v1 := World.block_lt_of_cell? _ _ c2_0_1
    go_wp2_with fail
    refine (HNEW.out _ _ _ _ c0_0_1 c1_0_1 c1_1_1 c2_6_1 b1).mono ?_
    rintro _ w2 ⟨x, u, rfl, hx1, hN, hu, r2⟩
    have hx2 := hN.lt
    have s2 := r2
    have b2 := b1.trans (s2.mono z1)
    have z2 := b2.size
    have y2 := s2.size
    have c0_0_2 := below_cell s2 c0_0_1; clear c0_0_1
    have c0_1_2 := below_cell s2 c0_1_1; clear c0_1_1
    have c0_2_2 := below_cell s2 c0_2_1; clear c0_2_1
    have c1_0_2 := below_cell s2 c1_0_1; clear c1_0_1
    have c1_1_2 := below_cell s2 c1_1_1; clear c1_1_1
    have c2_0_2 := below_cell s2 c2_0_1; clear c2_0_1
    have c2_1_2 := below_cell s2 c2_1_1; clear c2_1_1
    have c2_2_2 := below_cell s2 c2_2_1; clear c2_2_1
    have c2_3_2 := below_cell s2 c2_3_1; clear c2_3_1
    have c2_4_2 := below_cell s2 c2_4_1; clear c2_4_1
    have c2_5_2 := below_cell s2 c2_5_1; clear c2_5_1
    have c2_6_2 := below_cell s2 c2_6_1; clear c2_6_1
    clear r2
    have HU := Lib.hid hu; clear hu
    go_wp2_with fail
    refine (HR0.out _ x _ _ u hN c0_0_2 c0_1_2 c0_2_2 c1_0_2 c1_1_2 b2).mono ?_
    rintro _ w3 ⟨va, rfl, na, r3⟩
    have hN := hN.later r3
    have hu := own_later HU.out r3
    have s3 := r3
    have b3 := b2.trans (s3.mono z2)
    have z3 := b3.size
    have y3 := s3.size
    have c0_0_3 := below_cell s3 c0_0_2; clear c0_0_2
    have c0_1_3 := below_cell s3 c0_1_2; clear c0_1_2
    have c0_2_3 := below_cell s3 c0_2_2; clear c0_2_2
    have c1_0_3 := below_cell s3 c1_0_2; clear c1_0_2
    have c1_1_3 := below_cell s3 c1_1_2; clear c1_1_2
    have c2_0_3 := below_cell s3 c2_0_2; clear c2_0_2
    have c2_1_3 := below_cell s3 c2_1_2; clear c2_1_2
    have c2_2_3 := below_cell s3 c2_2_2; clear c2_2_2
    have c2_3_3 := below_cell s3 c2_3_2; clear c2_3_2
    have c2_4_3 := below_cell s3 c2_4_2; clear c2_4_2
    have c2_5_3 := below_cell s3 c2_5_2; clear c2_5_2
    have c2_6_3 := below_cell s3 c2_6_2; clear c2_6_2
    clear r3 HU
    have HU := Lib.hid hu; clear hu
    have NA := Lib.hid na; clear na
    have q0 := hN.x0
    have q1 := hN.x1
    have q3 := hN.x3
    have q4 := hN.x4
    have qf := hN.xf 4
    obtain ⟨au, pu, hv⟩ := own_shape HU.out
    subst hv
    go_wp2_with fail
    have ho : Only (fun b => b = x) w3 (w3.setCell ⟨x, 4, none⟩ (.slice au LM.length pu)) := Only.setCell (S := fun b => b = x) (Only.refl _ w3) (p := ⟨x, 4, none⟩) rfl _
    have hN := hN.steps (.slice au LM.length pu)
    have hxl : w.heap.size + 2 < x := by have : w.heap.size + 1 + 1 < w1.heap.size := v1; omega
    have b4 : Below w.heap.size w (w3.setCell ⟨x, 4, none⟩ (.slice au LM.length pu)) := b3.setCell (show w.heap.size ≤ x by omega) _
    have e00 := cell_only ho c0_0_3 (show ¬ w.heap.size = x by omega)
    have e01 := cell_only ho c0_1_3 (show ¬ w.heap.size = x by omega)
    have e02 := cell_only ho c0_2_3 (show ¬ w.heap.size = x by omega)
    have e10 := cell_only ho c1_0_3 (show ¬ w.heap.size + 1 = x by omega)
    have e11 := cell_only ho c1_1_3 (show ¬ w.heap.size + 1 = x by omega)
    have hH : H6 (w.heap.size + 1 + 1) a b c d f t (w3.setCell ⟨x, 4, none⟩ (.slice au LM.length pu)) := ⟨cell_only ho c2_0_3 (show ¬ w.heap.size + 1 + 1 = x by omega), cell_only ho c2_1_3 (show ¬ w.heap.size + 1 + 1 = x by omega), cell_only ho c2_2_3 (show ¬ w.heap.size + 1 + 1 = x by omega), cell_only ho c2_3_3 (show ¬ w.heap.size + 1 + 1 = x by omega), cell_only ho c2_4_3 (show ¬ w.heap.size + 1 + 1 = x by omega), cell_only ho c2_5_3 (show ¬ w.heap.size + 1 + 1 = x by omega)⟩
    have hu := own_only HU.out ho (fun j e e' => by have := own_lo HU.out j e; omega)
    have na := own_only NA.out ho (fun j e e' => by have := own_lo NA.out j e; omega)
    clear HU NA ho q0 q1 q3 q4 qf c0_0_3 c0_1_3 c0_2_3 c1_0_3 c1_1_3 c2_0_3 c2_1_3 c2_2_3 c2_3_3 c2_4_3 c2_5_3 c2_6_3
    generalize w3.setCell ⟨x, 4, none⟩ (.slice au LM.length pu) = W4 at *
    have NA := Lib.hid na; clear na
    have rdu := Rd.of_own hu
    refine (HR2.out W4 x _ _ _ _ hN e00 e01 e02 e10 e11 b4 rdu).mono ?_
    rintro _ wd ⟨vd, rfl, nd, qd⟩
    have b5 := b4.trans (qd.mono b4.size)
    have na := own_later NA.out qd
    have hH := hH.later qd
    clear qd NA rdu hu hN e00 e01 e02 e10 e11
    obtain ⟨ga, ca, rfl, hga1, hga2⟩ := World.ownsRow.form na (by rw [HLB.out]; decide)
    obtain ⟨gd, cd, rfl, hgd1, hgd2⟩ := World.ownsRow.form nd (by rw [HLA.out]; decide)
    have hca := fun k (hk : k < 5) => (World.ownsRow.cellAt na k (by rw [HLB.out]; omega)).trans (intsAt (by rw [HLB.out]; exact hk))
    have hcd := fun k (hk : k < 5) => (World.ownsRow.cellAt nd k (by rw [HLA.out]; omega)).trans (intsAt (by rw [HLA.out]; exact hk))
    have hla0 := HLA.out
    have hlb0 := HLB.out
    have hca' : ∀ k, k < 5 → wd.cell? ⟨ga, k, none⟩ = some (.int .i64 (BF.getD k 0)) := fun k hk => by rw [getD_eq (show k < BF.length by omega)]; exact hca k hk
    have hcd' : ∀ k, k < 5 → wd.cell? ⟨gd, k, none⟩ = some (.int .i64 (AF.getD k 0)) := fun k hk => by rw [getD_eq (show k < AF.length by omega)]; exact hcd k hk
    have HCA := Lib.hid hca'; clear hca'
    have HCD := Lib.hid hcd'; clear hcd'
    have HH := Lib.hid hH; clear hH
    clear hca hcd na nd HLA HLB HNEW HR0 HR2 HAI
    rw [hlb0, hla0]
    clear hlb0 hla0
    have hRES := HRES.out
    clear HRES
    go_wp2_with fail
    go_loopw [13] (fun i wr => ∃ (k : Nat), k ≤ 5 ∧ i = .int .i64 k ∧ Below wd.heap.size wd wr ∧ blkF ls BF AF t (5 - k) k = RES) (fun i _ => 5 - (intOf i).toNat)
    case atStart => exact ⟨0, Nat.zero_le _, rfl, Below.refl _ _, hRES⟩
    case round =>
      obtain ⟨k, hk, rfl, hb6, hre⟩ := hrel
      have b6 := b5.trans (hb6.mono b5.size)
      by_cases hlt : k < 5
      · have hltd : decide ((k : Int) < 5) = true := by simp; omega
        rw [HBS.out k hlt] at hre
        have e1 := below_cell hb6 (HCA.out k hlt)
        have e2 := below_cell hb6 (HCD.out k hlt)
        have htl := fun w' hS => HTL.out (w.heap.size + 1 + 1) k (BF.getD k 0) w' hS hlt
        have hth := fun w' hS => HTH.out (w.heap.size + 1 + 1) k (AF.getD k 0) w' hS hlt
        have hg1 := HH.out.later hb6
        have hix := ix (P := Try.prog) (T := 38) (n := 5) (cap := ca) Try.underlying38 cells_int64 has_int64 (ao := some ⟨ga, 0, none⟩) (b := ga) (off := 0) (fun _ => rfl) (k := k) hlt _ rfl
        have hix2 := ix (P := Try.prog) (T := 38) (n := 5) (cap := cd) Try.underlying38 cells_int64 has_int64 (ao := some ⟨gd, 0, none⟩) (b := gd) (off := 0) (fun _ => rfl) (k := k) hlt _ rfl
        rw [Nat.mul_one, Nat.zero_add] at hix hix2
        generalize lowB (ls.getD k 0) (BF.getD k 0) t = lo at *
        generalize highB (ls.getD k 0) (AF.getD k 0) t = hi at *
        generalize BF.getD k 0 = x1 at *
        generalize AF.getD k 0 = x2 at *
        have HTL1 := Lib.hid htl; clear htl
        have HTH1 := Lib.hid hth; clear hth
        have HRE := Lib.hid hre; clear hre
        have HG1 := Lib.hid hg1; clear hg1
        have E2 := Lib.hid e2; clear e2
        go_wp2_with fail
        refine (HTL1.out _ HG1.out).mono ?_
        rintro _ we ⟨rfl, qe⟩
        have hg1 := HG1.out.later qe
        have e2 := below_cell qe E2.out
        clear HG1 E2 e1
        cases lo
        · have HG1 := Lib.hid hg1; clear hg1
          go_wp2_with fail
          refine (HTH1.out _ HG1.out).mono ?_
          rintro _ wf ⟨rfl, qf⟩
          have bA : Below wr.heap.size wr wf := qe.trans (qf.mono qe.size)
          clear qf qe HG1 e2
          have hb7 := hb6.trans (bA.mono hb6.size)
          cases hi
          · have hre := HRE.out
            simp only [Bool.false_eq_true, if_false] at hre
            have HRE2 := Lib.hid hre; clear hre
            go_wp2
            go_roundw
            case rel => exact ⟨k + 1, by omega, by go_num, hb7, HRE2.out⟩
            case measure => simp [intOf]; omega
          · have hre := HRE.out
            simp only [Bool.false_eq_true, if_false, if_true] at hre
            have b9 := b6.trans (bA.mono b6.size)
            subst hre
            go_wp2
            go_returns
            exact RetB.mk (by go_num) b9
        · have hre := HRE.out
          simp only [if_true] at hre
          have b9 := b6.trans (qe.mono b6.size)
          subst hre
          go_wp2
          go_returns
          exact RetB.mk (by go_num) b9
      · obtain rfl : k = 5 := by omega
        have hltd : decide ((5 : Int) < 5) = false := rfl
        have hre : (0, 0, 0) = RES := hre
        subst hre
        go_wp2
        go_returns
        exact RetB.mk rfl b6

end Go.Proofs.Ytmeeibcbhjifbaa

