/- Several texts of the proofs in one: Pln, Pln2, Pln3, Pln4. -/
import Derived.Test.YtmeeibcbhjifbaaGreatApply2
import Derived.Test.YtmeeibcbhjifbaaGreatGG
import Derived.Test.YtmeeibcbhjifbaaGreatSnd2
import Derived.Test.YtmeeibcbhjifbaaGreatVA
import Derived.Test.YtmeeibcbhjifbaaGreatVB
import Derived.Test.YtmeeibcbhjifbaaGreatVC
/- A plan: plain, and the greatest deviation. -/
namespace Go.Proofs.YtmeeibcbhjifbaaGreat
set_option linter.unusedVariables false
open Go.RowKit Go.Proofs.Bell Go.BigFrame

def devV (ls r : List Int) (k : Nat) : Int := betV (ls.getD k 0).toNat (r.getD k 0).toNat
def devK (ls r : List Int) : Nat → List Int
  | 0 => []
  | k + 1 => devK ls r k ++ [devV ls r k]
theorem devK_len (ls r : List Int) : ∀ k, (devK ls r k).length = k
  | 0 => rfl
  | k + 1 => by rw [devK, List.length_append, devK_len ls r k]; rfl
theorem devK_at (ls r : List Int) : ∀ n k, k < n → (devK ls r n).getD k 0 = devV ls r k
  | 0, _, h => absurd h (Nat.not_lt_zero _)
  | n + 1, k, h => by
    have hl := devK_len ls r n
    rw [devK]
    rcases Nat.lt_or_ge k n with h1 | h1
    · rw [← devK_at ls r n k h1]
      simp [List.getD, List.getElem?_append_left (show k < (devK ls r n).length by omega)]
    · obtain rfl : k = n := by omega
      simp [List.getD, List.getElem?_append_right (show (devK ls r k).length ≤ k by omega), hl]
def absK (D : List Int) : Nat → Int
  | 0 => 0
  | k + 1 => if absK D k < absI (D.getD k 0) then absI (D.getD k 0) else absK D k
def argA (D : List Int) : Nat → Nat
  | 0 => 0
  | k + 1 => if absI (D.getD (argA D k) 0) < absI (D.getD k 0) then k else argA D k
theorem absI_nn (x : Int) : 0 ≤ absI x := by unfold absI; split <;> omega
theorem argA_abs (D : List Int) : ∀ k, absI (D.getD (argA D (k + 1)) 0) = absK D (k + 1) ∧ argA D (k + 1) ≤ k
  | 0 => by
    have h := absI_nn (D.getD 0 0)
    have e : argA D (0 + 1) = 0 := by unfold argA; split <;> rfl
    have e2 : absK D (0 + 1) = if 0 < absI (D.getD 0 0) then absI (D.getD 0 0) else 0 := rfl
    rw [e, e2]
    refine ⟨?_, Nat.le_refl _⟩
    split <;> omega
  | k + 1 => by
    obtain ⟨h1, h2⟩ := argA_abs D k
    rw [argA, absK, h1]
    split
    · exact ⟨rfl, Nat.le_refl _⟩
    · exact ⟨h1, by omega⟩
theorem argA_le (D : List Int) : ∀ k, argA D k ≤ k
  | 0 => Nat.le_refl _
  | k + 1 => by have := (argA_abs D k).2; omega
theorem absK_nn (D : List Int) : ∀ k, 0 ≤ absK D k
  | 0 => by simp [absK]
  | k + 1 => by have := absI_nn (D.getD k 0); have := absK_nn D k; rw [absK]; split <;> omega

def devI (zs : List Int) (ws : List (List Int)) (bs : List Int) (nm : ByteArray) (ps : List (Int × Int × Int)) (a b c d f t m : Int) (cs : List (Int × Int)) : List Int × Int :=
  if cutsB cs then (if goalAsk zs ws bs nm ps a b c d f t m = 0 then (if (applyI nm ps zs cs).2.2 = 0 then (if sndOk (rawL (applyI nm ps zs cs).2.1 zs ws bs) then (devK [a, b, c, d, f] (rawL (applyI nm ps zs cs).2.1 zs ws bs) 5, 0) else ([], 6)) else ([], (applyI nm ps zs cs).2.2)) else ([], goalAsk zs ws bs nm ps a b c d f t m)) else ([], 1)
def planI (zs : List Int) (ws : List (List Int)) (bs : List Int) (nm : ByteArray) (ps : List (Int × Int × Int)) (a b c d f t m : Int) (cs : List (Int × Int)) : Bool :=
  decide ((devI zs ws bs nm ps a b c d f t m cs).2 = 0) && decide (maxI (sumsOf cs) ≤ m) && decide (absK (devI zs ws bs nm ps a b c d f t m cs).1 5 ≤ t)

theorem iabs_c (x : Int) (w : World) (h1 : -1000000 ≤ x) (h2 : x ≤ 1000000) : Calls Tryz.prog 47 #[.int .i64 x] w (RetS (.int .i64 (absI x)) w) := by
  unfold absI
  by_cases h : x < 0
  · have t1 : decide (x < 0) = true := decide_eq_true h
    rw [if_pos h]
    go_enter Tryz.func47, Tryz.ntmps47
    go_wp2
    go_returns
    exact RetS.mk (int_eq (by omega))
  · have t1 : decide (x < 0) = false := decide_eq_false h
    rw [if_neg h]
    go_enter Tryz.func47, Tryz.ntmps47
    go_wp2
    go_returns
    exact RetS.mk rfl

set_option maxRecDepth 100000 in
set_option maxHeartbeats 1600000 in
theorem worst_c (v : Value) (D : List Int) (w : World) (hr : Rd w v D.length (ints D)) (hD : ∀ k, -1000000 ≤ D.getD k 0 ∧ D.getD k 0 ≤ 1000000) : Calls Tryz.prog 48 #[v] w (RetB (.int .i64 ((argA D D.length : Nat) : Int)) w) := by
  have hab := fun k w' => iabs_c (D.getD k 0) w' (hD k).1 (hD k).2
  have hle := argA_le D
  have hlt0 := fun k => (argA_abs D k).2
  have hst := fun k => (show argA D (k + 1) = if absI (D.getD (argA D k) 0) < absI (D.getD k 0) then k else argA D k from rfl)
  obtain ⟨hn, ao, cap, b, off, rfl, hao, hcell⟩ := hr.open
  clear hr
  have hc := fun w' (hx : Below w.heap.size w w') k (hk : k < D.length) => (hcell w' hx k _ (by omega) (intsAt hk)).trans (congrArg (fun z => some (Value.int .i64 z)) (getD_eq hk).symm)
  have HAB := Lib.hid hab; clear hab
  have HC := Lib.hid hc; clear hc
  have HST := Lib.hid hst; clear hst
  have HAO := Lib.hid hao; clear hao
  clear hcell hD
  go_enter Tryz.func48, Tryz.ntmps48
  go_wp2_with fail
  go_loopw [8, 3] (fun i r wr => ∃ (k : Nat), k ≤ D.length ∧ i = .int .i64 k ∧ r = .int .i64 ((argA D k : Nat) : Int) ∧ Below w.heap.size w wr) (fun i _ _ => D.length - (intOf i).toNat)
  case atStart => exact ⟨0, Nat.zero_le _, rfl, rfl, Below.refl _ _⟩
  case round =>
    obtain ⟨k, hk, rfl, rfl, hb⟩ := hrel
    by_cases hlt : k < D.length
    · have hltd : decide (k < D.length) = true := decide_eq_true hlt
      obtain rfl := HAO.out (by omega)
      have hle := hle k
      have hal : argA D k < D.length := by omega
      have hix := ix (P := Tryz.prog) (T := 22) (n := D.length) (cap := cap) Tryz.underlying22 cells_int64 has_int64 (ao := some ⟨b, off, none⟩) (b := b) (off := off) (fun _ => rfl) (k := k) hlt _ rfl
      have hix2 := ix (P := Tryz.prog) (T := 22) (n := D.length) (cap := cap) Tryz.underlying22 cells_int64 has_int64 (ao := some ⟨b, off, none⟩) (b := b) (off := off) (fun _ => rfl) (k := argA D k) hal _ rfl
      rw [Nat.mul_one] at hix hix2
      have c1 := HC.out wr hb k hlt
      have c2 := HC.out wr hb (argA D k) hal
      have a1 := HAB.out k
      have a2 := HAB.out (argA D k)
      have hs := HST.out k
      generalize hr1 : argA D (k + 1) = r1 at *
      generalize argA D k = r0 at *
      generalize D.getD k 0 = x at *
      generalize D.getD r0 0 = y at *
      have A1 := Lib.hid a1; clear a1
      have A2 := Lib.hid a2; clear a2
      by_cases hxy : absI y < absI x
      · rw [if_pos hxy] at hs
        have t1 : decide (absI y < absI x) = true := decide_eq_true hxy
        rw [hs] at hr1
        have HR1 := Lib.hid hr1; clear hr1
        clear hs
        generalize absI x = ax at *
        generalize absI y = ay at *
        go_wp2_with fail
        go_quiet (first | (go_at_call 47; first | exact quietS (A1.out _) | exact quietS (A2.out _)))
        go_wp2
        go_roundw
        case rel => exact ⟨k + 1, by omega, by go_num, by rw [HR1.out], below_drewN hb _⟩
        case measure => simp [intOf]; omega
      · rw [if_neg hxy] at hs
        have t1 : decide (absI y < absI x) = false := decide_eq_false hxy
        rw [hs] at hr1
        have HR1 := Lib.hid hr1; clear hr1
        clear hs
        generalize absI x = ax at *
        generalize absI y = ay at *
        go_wp2_with fail
        go_quiet (first | (go_at_call 47; first | exact quietS (A1.out _) | exact quietS (A2.out _)))
        go_wp2
        go_roundw
        case rel => exact ⟨k + 1, by omega, by go_num, by rw [HR1.out], below_drewN hb _⟩
        case measure => simp [intOf]; omega
    · obtain rfl : k = D.length := by omega
      have hltd : decide (D.length < D.length) = false := decide_eq_false (by omega)
      go_wp2
      go_returns
      exact RetB.mk rfl hb

end Go.Proofs.YtmeeibcbhjifbaaGreat

/- The deviations of a sound from a goal, and the greatest of them. -/
namespace Go.Proofs.YtmeeibcbhjifbaaGreat
set_option linter.unusedVariables false
open Go.RowKit Go.Proofs.Bell Go.BigFrame

set_option maxHeartbeats 800000 in
theorem greatest_c (v : Value) (D : List Int) (w : World) (hr : Rd w v D.length (ints D)) (h1 : 1 ≤ D.length) (hD : ∀ k, -1000000 ≤ D.getD k 0 ∧ D.getD k 0 ≤ 1000000) : Calls Tryz.prog 30 #[v] w (RetB (.int .i64 (absK D D.length)) w) := by
  have hwo := worst_c v D w hr hD
  obtain ⟨n, hn⟩ : ∃ n, D.length = n + 1 := ⟨D.length - 1, by omega⟩
  have hq := argA_abs D n
  rw [← hn] at hq
  have hb := hD (argA D D.length)
  have hab := fun w' => iabs_c (D.getD (argA D D.length) 0) w' hb.1 hb.2
  rw [hq.1] at hab
  obtain ⟨hn9, ao, cap, b, off, rfl, hao, hcell⟩ := hr.open
  obtain rfl := hao (by omega)
  have hal : argA D D.length < D.length := by omega
  have hc := fun w' (hx : Below w.heap.size w w') => (hcell w' hx (argA D D.length) _ (by omega) (intsAt hal)).trans (congrArg (fun z => some (Value.int .i64 z)) (getD_eq hal).symm)
  have hix := ix (P := Tryz.prog) (T := 22) (n := D.length) (cap := cap) Tryz.underlying22 cells_int64 has_int64 (ao := some ⟨b, off, none⟩) (b := b) (off := off) (fun _ => rfl) (k := argA D D.length) hal _ rfl
  rw [Nat.mul_one] at hix
  have HWO := Lib.hid hwo; clear hwo
  have HAB := Lib.hid hab; clear hab
  have HC := Lib.hid hc; clear hc
  clear hr hcell hao hD hq hb hn
  generalize absK D D.length = R at *
  generalize D.getD (argA D D.length) 0 = x at *
  generalize argA D D.length = r at *
  generalize D.length = n at *
  go_enter Tryz.func30, Tryz.ntmps30
  go_wp2_with fail
  refine HWO.out.mono ?_
  rintro _ w1 ⟨rfl, r1⟩
  have hc := HC.out w1 r1
  go_wp2_with fail
  refine (HAB.out _).mono ?_
  rintro _ _ ⟨rfl, rfl⟩
  go_wp2
  go_returns
  exact RetB.mk rfl r1

set_option maxHeartbeats 400000 in
theorem l00MaxA_c (a b : Int) (w : World) : Calls Tryz.prog 40 #[.int .i64 a, .int .i64 b] w (RetS (.int .i64 (if a < b then b else a)) w) := by
  by_cases h : a < b
  · rw [if_pos h]
    have h1 : decide (b < a) = false := decide_eq_false (by omega)
    go_enter Tryz.func40, Tryz.ntmps40
    go_wp2
    go_returns
    exact RetS.mk rfl
  · rw [if_neg h]
    by_cases h2 : b < a
    · have h1 : decide (b < a) = true := decide_eq_true h2
      go_enter Tryz.func40, Tryz.ntmps40
      go_wp2
      go_returns
      exact RetS.mk rfl
    · obtain rfl : a = b := by omega
      have h1 : decide (a < a) = false := decide_eq_false (by omega)
      go_enter Tryz.func40, Tryz.ntmps40
      go_wp2
      go_returns
      exact RetS.mk rfl

set_option maxRecDepth 100000 in
set_option maxHeartbeats 1600000 in
theorem l10Greatest_c (v : Value) (D : List Int) (w : World) (hr : Rd w v D.length (ints D)) (hD : ∀ k, -1000000 ≤ D.getD k 0 ∧ D.getD k 0 ≤ 1000000) : Calls Tryz.prog 20 #[v] w (RetB (.int .i64 (absK D D.length)) w) := by
  have hma : ∀ x w', Calls Tryz.prog 40 #[.int .i64 x, .int .i64 (-x)] w' (RetS (.int .i64 (absI x)) w') := fun x w' => by
    have := l00MaxA_c x (-x) w'
    rwa [show (if x < -x then -x else x) = absI x by unfold absI; split <;> split <;> omega] at this
  have hmb := fun k w' => l00MaxA_c (absK D k) (absI (D.getD k 0)) w'
  have hst := fun k => (show (if absK D k < absI (D.getD k 0) then absI (D.getD k 0) else absK D k) = absK D (k + 1) from rfl)
  simp only [hst] at hmb
  obtain ⟨hn, ao, cap, b, off, rfl, hao, hcell⟩ := hr.open
  clear hr hst
  have hc := fun w' (hx : Below w.heap.size w w') k (hk : k < D.length) => (hcell w' hx k _ (by omega) (intsAt hk)).trans (congrArg (fun z => some (Value.int .i64 z)) (getD_eq hk).symm)
  have HMA := Lib.hid hma; clear hma
  have HMB := Lib.hid hmb; clear hmb
  have HC := Lib.hid hc; clear hc
  have HAO := Lib.hid hao; clear hao
  have HD := Lib.hid hD; clear hD
  clear hcell
  go_enter Tryz.func20, Tryz.ntmps20
  go_wp2_with fail
  go_loopw [4, 3] (fun i r wr => ∃ (k : Nat), k ≤ D.length ∧ i = .int .i64 k ∧ r = .int .i64 (absK D k) ∧ Below w.heap.size w wr) (fun i _ _ => D.length - (intOf i).toNat)
  case atStart => exact ⟨0, Nat.zero_le _, rfl, rfl, Below.refl _ _⟩
  case round =>
    obtain ⟨k, hk, rfl, rfl, hb⟩ := hrel
    by_cases hlt : k < D.length
    · have hltd : decide (k < D.length) = true := decide_eq_true hlt
      obtain rfl := HAO.out (by omega)
      have hix := ix (P := Tryz.prog) (T := 22) (n := D.length) (cap := cap) Tryz.underlying22 cells_int64 has_int64 (ao := some ⟨b, off, none⟩) (b := b) (off := off) (fun _ => rfl) (k := k) hlt _ rfl
      rw [Nat.mul_one] at hix
      have c1 := HC.out wr hb k hlt
      have hd := HD.out k
      have a1 := HMA.out (D.getD k 0)
      have a2 := HMB.out k
      have hw : IntKind.i64.wrap (-(D.getD k 0)) = -(D.getD k 0) := IntWalk.i64_in _ (by omega)
      generalize hr1 : absK D (k + 1) = r1 at *
      have HR1 := Lib.hid hr1; clear hr1
      generalize absK D k = r0 at *
      generalize D.getD k 0 = x at *
      generalize absI x = ax at *
      have A1 := Lib.hid a1; clear a1
      have A2 := Lib.hid a2; clear a2
      go_wp2_with fail
      go_quiet (first | (go_at_call 40; first | exact quietS (A1.out _) | exact quietS (A2.out _)))
      go_wp2
      go_roundw
      case rel => exact ⟨k + 1, by omega, by go_num, by rw [HR1.out], below_drewN hb _⟩
      case measure => simp [intOf]; omega
    · obtain rfl : k = D.length := by omega
      have hltd : decide (D.length < D.length) = false := decide_eq_false (by omega)
      go_wp2
      go_returns
      exact RetB.mk rfl hb

theorem devV_bd {ls r : List Int} (hls : ∀ k, k < 5 → 1 ≤ ls.getD k 0 ∧ ls.getD k 0 ≤ 20000000) (hr : ∀ k, k < 5 → 1 ≤ r.getD k 0 ∧ r.getD k 0 ≤ 20000000) (k : Nat) (hk : k < 5) : -300000 ≤ devV ls r k ∧ devV ls r k ≤ 300000 := by
  have h1 := hls k hk
  have h2 := hr k hk
  exact bet_bd (by omega) (by omega) (by omega) (by omega)
theorem devK_bd {ls r : List Int} (hls : ∀ k, k < 5 → 1 ≤ ls.getD k 0 ∧ ls.getD k 0 ≤ 20000000) (hr : ∀ k, k < 5 → 1 ≤ r.getD k 0 ∧ r.getD k 0 ≤ 20000000) (k : Nat) : -1000000 ≤ (devK ls r 5).getD k 0 ∧ (devK ls r 5).getD k 0 ≤ 1000000 := by
  rcases Nat.lt_or_ge k 5 with h | h
  · rw [devK_at ls r 5 k h]
    have := devV_bd hls hr k h
    omega
  · simp only [List.getD]
    rw [List.getElem?_eq_none (by rw [devK_len]; exact h)]
    simp

end Go.Proofs.YtmeeibcbhjifbaaGreat

/- The intervals from a goal's partials to a sound's. -/
namespace Go.Proofs.YtmeeibcbhjifbaaGreat
set_option linter.unusedVariables false
open Go.RowKit Go.Proofs.Bell Go.BigFrame

theorem five_eq : ∀ {r : List Int}, r.length = 5 → [r.getD 0 0, r.getD 1 0, r.getD 2 0, r.getD 3 0, r.getD 4 0] = r
  | [_, _, _, _, _], _ => rfl

set_option maxRecDepth 100000 in
set_option maxHeartbeats 3200000 in
theorem apart_c (a b c d f : Int) (r : List Int) (w : World) (hls : ∀ k, k < 5 → 1 ≤ [a, b, c, d, f].getD k 0 ∧ [a, b, c, d, f].getD k 0 ≤ 20000000) (hr5 : r.length = 5) (hr : ∀ k, k < 5 → 1 ≤ r.getD k 0 ∧ r.getD k 0 ≤ 20000000) :
    Calls Tryz.prog 46 #[.agg #[.int .i64 a, .int .i64 b, .int .i64 c, .int .i64 d, .int .i64 f], sndV r] w (RetOwnI (devK [a, b, c, d, f] r 5) w) := by
  have hce := fun k w' (hk : k < 5) => cents_c ([a, b, c, d, f].getD k 0).toNat (r.getD k 0).toNat w' (by have := hls k hk; omega) (by have := hls k hk; omega) (by have := hr k hk; omega) (by have := hr k hk; omega)
  have hce2 : ∀ k w', k < 5 → Calls Tryz.prog 78 #[.int .i64 ([a, b, c, d, f].getD k 0), .int .i64 (r.getD k 0)] w' (RetS (.int .i64 (devV [a, b, c, d, f] r k)) w') := fun k w' hk => by
    have h := hce k w' hk
    have h1 := hls k hk
    have h2 := hr k hk
    rwa [Int.toNat_of_nonneg (by omega), Int.toNat_of_nonneg (by omega)] at h
  have hli1 := fun w' => listOfO_c a b c d f w'
  have hli2 := fun w' => listOfO_c (r.getD 0 0) (r.getD 1 0) (r.getD 2 0) (r.getD 3 0) (r.getD 4 0) w'
  have hr9 := five_eq hr5
  rw [hr9] at hli2
  have hl5 : [a, b, c, d, f].length = 5 := rfl
  have hst := fun k => (show devK [a, b, c, d, f] r k ++ [devV [a, b, c, d, f] r k] = devK [a, b, c, d, f] r (k + 1) from rfl)
  have hdl := devK_len [a, b, c, d, f] r
  unfold sndV
  generalize [a, b, c, d, f] = ls at *
  generalize r.getD 0 0 = j0 at *
  generalize r.getD 1 0 = j1 at *
  generalize r.getD 2 0 = j2 at *
  generalize r.getD 3 0 = j3 at *
  generalize r.getD 4 0 = j4 at *
  clear hce hls hr hr9
  have HCE := Lib.hid hce2; clear hce2
  have HLI1 := Lib.hid hli1; clear hli1
  have HLI2 := Lib.hid hli2; clear hli2
  have HL5 := Lib.hid hl5; clear hl5
  have HR5 := Lib.hid hr5; clear hr5
  have HST := Lib.hid hst; clear hst
  have HDL := Lib.hid hdl; clear hdl
  go_enter Tryz.func46, Tryz.ntmps46
  have b0 : Below w.heap.size w w := Below.refl _ _
  have z0 : w.heap.size ≤ w.heap.size := Nat.le_refl _
  go_wp2_with fail
  refine (HLI2.out _).mono ?_
  rintro _ w1 ⟨x1, rfl, n1, r1⟩
  have s1 : Below w.heap.size w w1 := Below.trans (by go_grown) (r1.mono (by simp; try omega))
  have b1 := b0.trans (s1.mono z0)
  have z1 := b1.size
  have y1 := s1.size
  have c0_0_1 := below_cell r1 (p := ⟨w.heap.size, 0, none⟩) (v := .int .i64 a) (by simp [go_sem])
  have c0_1_1 := below_cell r1 (p := ⟨w.heap.size, 1, none⟩) (v := .int .i64 b) (by simp [go_sem])
  have c0_2_1 := below_cell r1 (p := ⟨w.heap.size, 2, none⟩) (v := .int .i64 c) (by simp [go_sem])
  have c0_3_1 := below_cell r1 (p := ⟨w.heap.size, 3, none⟩) (v := .int .i64 d) (by simp [go_sem])
  have c0_4_1 := below_cell r1 (p := ⟨w.heap.size, 4, none⟩) (v := .int .i64 f) (by simp [go_sem])
  have c1_0_1 := below_cell r1 (p := ⟨w.heap.size + 1, 0, none⟩) (v := .int .i64 j0) (by simp [go_sem])
  have c1_1_1 := below_cell r1 (p := ⟨w.heap.size + 1, 1, none⟩) (v := .int .i64 j1) (by simp [go_sem])
  have c1_2_1 := below_cell r1 (p := ⟨w.heap.size + 1, 2, none⟩) (v := .int .i64 j2) (by simp [go_sem])
  have c1_3_1 := below_cell r1 (p := ⟨w.heap.size + 1, 3, none⟩) (v := .int .i64 j3) (by simp [go_sem])
  have c1_4_1 := below_cell r1 (p := ⟨w.heap.size + 1, 4, none⟩) (v := .int .i64 j4) (by simp [go_sem])
  clear r1
  have n1 : OwnI w.heap.size w1 x1 r := own_base n1 (by simp; omega)
  obtain ⟨g1, c1, hx1, hg11, hg12⟩ := World.ownsRow.form n1 (by rw [HR5.out]; decide)
  subst hx1
  have hc1 := fun k (hk : k < 5) => (World.ownsRow.cellAt n1 k (by rw [HR5.out]; omega)).trans ((intsAt (show k < r.length by rw [HR5.out]; exact hk)).trans (congrArg (fun z => some (Value.int .i64 z)) (getD_eq (show k < r.length by rw [HR5.out]; exact hk)).symm))
  have HC1 := Lib.hid hc1; clear hc1
  clear n1
  have hr5' := HR5.out
  rw [hr5']
  clear hr5'
  go_wp2_with fail
  refine (HLI1.out _).mono ?_
  rintro _ w2 ⟨x2, rfl, n2, r2⟩
  have s2 := r2
  have b2 := b1.trans (s2.mono z1)
  have z2 := b2.size
  have y2 := s2.size
  have c0_0_2 := below_cell s2 c0_0_1; clear c0_0_1
  have c0_1_2 := below_cell s2 c0_1_1; clear c0_1_1
  have c0_2_2 := below_cell s2 c0_2_1; clear c0_2_1
  have c0_3_2 := below_cell s2 c0_3_1; clear c0_3_1
  have c0_4_2 := below_cell s2 c0_4_1; clear c0_4_1
  have c1_0_2 := below_cell s2 c1_0_1; clear c1_0_1
  have c1_1_2 := below_cell s2 c1_1_1; clear c1_1_1
  have c1_2_2 := below_cell s2 c1_2_1; clear c1_2_1
  have c1_3_2 := below_cell s2 c1_3_1; clear c1_3_1
  have c1_4_2 := below_cell s2 c1_4_1; clear c1_4_1
  clear r2
  have n2 : OwnI w.heap.size w2 x2 ls := own_base n2 b1.size
  obtain ⟨g2, c2, hx2, hg21, hg22⟩ := World.ownsRow.form n2 (by rw [HL5.out]; decide)
  subst hx2
  have hc2 := fun k (hk : k < 5) => (World.ownsRow.cellAt n2 k (by rw [HL5.out]; omega)).trans ((intsAt (show k < ls.length by rw [HL5.out]; exact hk)).trans (congrArg (fun z => some (Value.int .i64 z)) (getD_eq (show k < ls.length by rw [HL5.out]; exact hk)).symm))
  have hc1 := fun k (hk : k < 5) => below_cell s2 (HC1.out k hk)
  clear HC1 n2
  have HC1 := Lib.hid hc1; clear hc1
  have HC2 := Lib.hid hc2; clear hc2
  have hl5' := HL5.out
  rw [hl5']
  clear hl5'
  go_wp2_with fail
  go_loopw [14, 5] (fun i u wr => ∃ (k : Nat), k ≤ 5 ∧ i = .int .i64 k ∧ OwnI w2.heap.size wr u (devK ls r k) ∧ Below w2.heap.size w2 wr) (fun i _ _ => 5 - (intOf i).toNat)
  case atStart => exact ⟨0, Nat.zero_le _, rfl, World.ownsRow_nil _ _ _ _, Below.refl _ _⟩
  case round =>
    obtain ⟨k, hk, rfl, ho, hb⟩ := hrel
    have hln := HDL.out k
    by_cases hlt : k < 5
    · have hltd : decide (k < 5) = true := decide_eq_true hlt
      have e1 := below_cell hb (HC1.out k hlt)
      have e2 := below_cell hb (HC2.out k hlt)
      have hix := ix (P := Tryz.prog) (T := 22) (n := 5) (cap := c1) Tryz.underlying22 cells_int64 has_int64 (ao := some ⟨g1, 0, none⟩) (b := g1) (off := 0) (fun _ => rfl) (k := k) hlt _ rfl
      have hix2 := ix (P := Tryz.prog) (T := 22) (n := 5) (cap := c2) Tryz.underlying22 cells_int64 has_int64 (ao := some ⟨g2, 0, none⟩) (b := g2) (off := 0) (fun _ => rfl) (k := k) hlt _ rfl
      rw [Nat.mul_one, Nat.zero_add] at hix hix2
      have hcek := fun w' => HCE.out k w' hlt
      have hs := HST.out k
      generalize hdv : devV ls r k = D at *
      generalize ls.getD k 0 = x at *
      generalize r.getD k 0 = y at *
      have HCEK := Lib.hid hcek; clear hcek
      have HS := Lib.hid hs; clear hs
      have HO := Lib.hid ho; clear ho
      have lo := own_lo HO.out
      have LO := Lib.hid lo; clear lo
      go_wp2_with fail
      refine (HCEK.out _).mono ?_
      rintro _ _ ⟨rfl, rfl⟩
      go_wp2_with (at_builtin; refine app_I (.tmp 19) (.tmp 26) _ _ _ _ _ (by rfl) (by rfl) (by rfl) (by rfl) HO.out (by omega) hb.size ?_; intro v2 w9 o9 q9)
      have hb2 := Only.below hb q9 hb.size (fun j e => LO.out j e)
      go_roundw
      case rel => exact ⟨k + 1, by omega, by go_num, by rw [← HS.out]; exact o9, hb2⟩
      case measure => simp [intOf]; omega
    · obtain rfl : k = 5 := by omega
      have hltd : decide (5 < 5) = false := rfl
      have b9 := b2.trans (hb.mono b2.size)
      have ho := own_base ho b2.size
      have HO := Lib.hid ho; clear ho
      go_wp2
      go_returns
      exact ⟨_, rfl, HO.out, b9⟩

end Go.Proofs.YtmeeibcbhjifbaaGreat

/- The deviations of a sound from a goal: the reference. -/
namespace Go.Proofs.YtmeeibcbhjifbaaGreat
set_option linter.unusedVariables false
open Go.RowKit Go.Proofs.Bell Go.BigFrame

def devR (ls r : List Int) : List Int := if sndOk r then devK ls r 5 else []
structure SDev (l1 l2 k o : Nat) (x y : Int) (w' : World) : Prop where
  e1 : w'.cell? ⟨l1, k, none⟩ = some (.int .i64 x)
  e2 : w'.cell? ⟨l2, o, none⟩ = some (.int .i64 y)
theorem SDev.later {l1 l2 k o : Nat} {x y : Int} {w w' : World} (h : SDev l1 l2 k o x y w) (hb : Below w.heap.size w w') : SDev l1 l2 k o x y w' := ⟨below_cell hb h.e1, below_cell hb h.e2⟩
theorem snd_at {r : List Int} (h5 : r.length = 5) (h : sndOk r = true) (k : Nat) (hk : k < 5) : 1 ≤ r.getD k 0 ∧ r.getD k 0 ≤ 20000000 := by
  have := sound_at h k hk
  rwa [five_eq h5] at this

set_option maxRecDepth 100000 in
set_option maxHeartbeats 6400000 in
theorem l10Dev_c (g : Nat) (a b c d f t : Int) (v : Value) (r : List Int) (w : World) (hG : H6 g a b c d f t w) (hv : Rd w v 5 (ints r)) (hr5 : r.length = 5) (hls : ∀ k, k < 5 → 1 ≤ [a, b, c, d, f].getD k 0 ∧ [a, b, c, d, f].getD k 0 ≤ 20000000) :
    Calls Tryz.prog 38 #[.pointer (some ⟨g, 0, none⟩), v] w (RetI2 (devR [a, b, c, d, f] r) (.bool (sndOk r)) w) := by
  have hsn := fun w' (hx : Below w.heap.size w w') => l04Sound_c v r hr5 w' (hv.later hx)
  have hok := fun w' g h0 h1 h2 h3 h4 => l04Ok_c (r.getD 0 0) (r.getD 1 0) (r.getD 2 0) (r.getD 3 0) (r.getD 4 0) g w' h0 h1 h2 h3 h4
  rw [show soundB (r.getD 0 0) (r.getD 1 0) (r.getD 2 0) (r.getD 3 0) (r.getD 4 0) = sndOk r from rfl] at hok
  obtain ⟨hn, ao, cap, b0', off, rfl, hao, hcell⟩ := hv.open
  obtain rfl := hao (by omega)
  have hc := fun w' (hx : Below w.heap.size w w') k (hk : k < 5) => (hcell w' hx k _ (by omega) (intsAt (show k < r.length by omega))).trans (congrArg (fun z => some (Value.int .i64 z)) (getD_eq (show k < r.length by omega)).symm)
  unfold sndV at hsn
  unfold devR
  have HC := Lib.hid hc; clear hc
  have HSN := Lib.hid hsn; clear hsn
  clear hcell hv hao
  cases t4 : sndOk r <;> rw [t4] at hok
  · simp only [Bool.false_eq_true, if_false]
    have HOK := Lib.hid hok; clear hok
    clear t4
    go_enter Tryz.func38, Tryz.ntmps38
    have b0 : Below w.heap.size w w := Below.refl _ _
    have z0 : w.heap.size ≤ w.heap.size := Nat.le_refl _
    go_wp2_with fail
    refine (HSN.out _ b0).mono ?_
    rintro _ w1 ⟨rfl, r1⟩
    have s1 := r1
    have b1 := b0.trans (s1.mono z0)
    have z1 := b1.size
    have y1 := s1.size
    clear r1
    generalize r.getD 0 0 = aa0 at *
    generalize r.getD 1 0 = aa1 at *
    generalize r.getD 2 0 = aa2 at *
    generalize r.getD 3 0 = aa3 at *
    generalize r.getD 4 0 = aa4 at *
    go_wp2_with fail
    refine (HOK.out _ w1.heap.size (by simp [go_sem]) (by simp [go_sem]) (by simp [go_sem]) (by simp [go_sem]) (by simp [go_sem])).mono ?_
    rintro _ w2 ⟨rfl, r2⟩
    have s2 : Below w1.heap.size w1 w2 := Below.trans (by go_grown) (r2.mono (by simp; try omega))
    have b2 := b1.trans (s2.mono z1)
    have z2 := b2.size
    have y2 := s2.size
    have v2 : w1.heap.size + 1 ≤ w2.heap.size := by have := r2.size; simp only [World.size_alloc] at this; omega
    have c0_0_2 := below_cell r2 (p := ⟨w1.heap.size, 0, none⟩) (v := .int .i64 aa0) (by simp [go_sem])
    have c0_1_2 := below_cell r2 (p := ⟨w1.heap.size, 1, none⟩) (v := .int .i64 aa1) (by simp [go_sem])
    have c0_2_2 := below_cell r2 (p := ⟨w1.heap.size, 2, none⟩) (v := .int .i64 aa2) (by simp [go_sem])
    have c0_3_2 := below_cell r2 (p := ⟨w1.heap.size, 3, none⟩) (v := .int .i64 aa3) (by simp [go_sem])
    have c0_4_2 := below_cell r2 (p := ⟨w1.heap.size, 4, none⟩) (v := .int .i64 aa4) (by simp [go_sem])
    have f0_2 : ∀ j, w2.frozen? ⟨w1.heap.size, j, none⟩ = false := fun j => (r2.frozen (p := ⟨w1.heap.size, j, none⟩) (by simp [go_sem])).trans (by simp [go_sem])
    clear r2
    go_wp2
    go_returns
    exact ⟨_, rfl, World.ownsRow_nil _ _ _ _, b2⟩
  · simp only [if_true]
    have hra := snd_at hr5 t4
    have hce := fun k w' (hk : k < 5) => l02Between_c ([a, b, c, d, f].getD k 0).toNat (r.getD k 0).toNat w' (by have := hls k hk; omega) (by have := hls k hk; omega) (by have := hra k hk; omega) (by have := hra k hk; omega)
    have hce2 : ∀ k w', k < 5 → Calls Tryz.prog 59 #[.int .i64 ([a, b, c, d, f].getD k 0), .int .i64 (r.getD k 0)] w' (RetS (.int .i64 (devV [a, b, c, d, f] r k)) w') := fun k w' hk => by
      have h := hce k w' hk
      have h1 := hls k hk
      have h2 := hra k hk
      rwa [Int.toNat_of_nonneg (by omega), Int.toNat_of_nonneg (by omega)] at h
    have hli := fun w' (hx : Below w.heap.size w w') => l04ListO_c a b c d f g w' (below_cell hx hG.p0) (below_cell hx hG.p1) (below_cell hx hG.p2) (below_cell hx hG.p3) (below_cell hx hG.p4)
    have hl5 : [a, b, c, d, f].length = 5 := rfl
    have hst := fun k => (show devK [a, b, c, d, f] r k ++ [devV [a, b, c, d, f] r k] = devK [a, b, c, d, f] r (k + 1) from rfl)
    have hdl := devK_len [a, b, c, d, f] r
    generalize [a, b, c, d, f] = ls at *
    have HOK := Lib.hid hok; clear hok
    have HCE := Lib.hid hce2; clear hce2
    have HLI := Lib.hid hli; clear hli
    have HL5 := Lib.hid hl5; clear hl5
    have HST := Lib.hid hst; clear hst
    have HDL := Lib.hid hdl; clear hdl
    clear t4 hce hra hls hG
    go_enter Tryz.func38, Tryz.ntmps38
    have b0 : Below w.heap.size w w := Below.refl _ _
    have z0 : w.heap.size ≤ w.heap.size := Nat.le_refl _
    go_wp2_with fail
    refine (HSN.out _ b0).mono ?_
    rintro _ w1 ⟨rfl, r1⟩
    have s1 := r1
    have b1 := b0.trans (s1.mono z0)
    have z1 := b1.size
    have y1 := s1.size
    clear r1
    have hcur := HC.out
    clear HC
    have HC := Lib.hid hcur; clear hcur
    generalize hq0 : r.getD 0 0 = aa0 at *
    generalize hq1 : r.getD 1 0 = aa1 at *
    generalize hq2 : r.getD 2 0 = aa2 at *
    generalize hq3 : r.getD 3 0 = aa3 at *
    generalize hq4 : r.getD 4 0 = aa4 at *
    clear hq0 hq1 hq2 hq3 hq4
    go_wp2_with fail
    refine (HOK.out _ w1.heap.size (by simp [go_sem]) (by simp [go_sem]) (by simp [go_sem]) (by simp [go_sem]) (by simp [go_sem])).mono ?_
    rintro _ w2 ⟨rfl, r2⟩
    have s2 : Below w1.heap.size w1 w2 := Below.trans (by go_grown) (r2.mono (by simp; try omega))
    have b2 := b1.trans (s2.mono z1)
    have z2 := b2.size
    have y2 := s2.size
    have v2 : w1.heap.size + 1 ≤ w2.heap.size := by have := r2.size; simp only [World.size_alloc] at this; omega
    have c0_0_2 := below_cell r2 (p := ⟨w1.heap.size, 0, none⟩) (v := .int .i64 aa0) (by simp [go_sem])
    have c0_1_2 := below_cell r2 (p := ⟨w1.heap.size, 1, none⟩) (v := .int .i64 aa1) (by simp [go_sem])
    have c0_2_2 := below_cell r2 (p := ⟨w1.heap.size, 2, none⟩) (v := .int .i64 aa2) (by simp [go_sem])
    have c0_3_2 := below_cell r2 (p := ⟨w1.heap.size, 3, none⟩) (v := .int .i64 aa3) (by simp [go_sem])
    have c0_4_2 := below_cell r2 (p := ⟨w1.heap.size, 4, none⟩) (v := .int .i64 aa4) (by simp [go_sem])
    have f0_2 : ∀ j, w2.frozen? ⟨w1.heap.size, j, none⟩ = false := fun j => (r2.frozen (p := ⟨w1.heap.size, j, none⟩) (by simp [go_sem])).trans (by simp [go_sem])
    clear r2
    go_wp2_with fail
    refine (HLI.out _ b2).mono ?_
    rintro _ w3 ⟨x3, rfl, n3, r3⟩
    have s3 := r3
    have b3 := b2.trans (s3.mono z2)
    have z3 := b3.size
    have y3 := s3.size
    have k0_3 := c0_0_2
    have c0_0_3 := below_cell s3 c0_0_2; clear c0_0_2
    have c0_1_3 := below_cell s3 c0_1_2; clear c0_1_2
    have c0_2_3 := below_cell s3 c0_2_2; clear c0_2_2
    have c0_3_3 := below_cell s3 c0_3_2; clear c0_3_2
    have c0_4_3 := below_cell s3 c0_4_2; clear c0_4_2
    have f0_3 : ∀ j, w3.frozen? ⟨w1.heap.size, j, none⟩ = false := fun j => (s3.frozen (p := ⟨w1.heap.size, j, none⟩) (show w1.heap.size < _ from World.block_lt_of_cell? _ ⟨w1.heap.size, 0, none⟩ k0_3)).trans (f0_2 j); clear f0_2
    clear r3
    have n3 : OwnI w.heap.size w3 x3 ls := own_base n3 b2.size
    obtain ⟨g2, c2, hx2, hg21, hg22⟩ := World.ownsRow.form n3 (by rw [HL5.out]; decide)
    subst hx2
    have hc2 := fun k (hk : k < 5) => (World.ownsRow.cellAt n3 k (by rw [HL5.out]; omega)).trans ((intsAt (show k < ls.length by rw [HL5.out]; exact hk)).trans (congrArg (fun z => some (Value.int .i64 z)) (getD_eq (show k < ls.length by rw [HL5.out]; exact hk)).symm))
    have HC2 := Lib.hid hc2; clear hc2
    clear n3
    have hl5' := HL5.out
    rw [hl5']
    clear hl5'
    go_wp2_with fail
    go_loopw [9, 8] (fun i z wr => ∃ (k : Nat) (u : Value), k ≤ 5 ∧ i = .int .i64 k ∧ u = z ∧ OwnI w3.heap.size wr u (devK ls r k) ∧ Below w3.heap.size w3 wr) (fun i _ _ => 5 - (intOf i).toNat)
    case atStart => exact ⟨0, _, Nat.zero_le _, rfl, rfl, own_empty _ _ _ _ (Nat.le_refl _), by go_grown⟩
    case round =>
      obtain ⟨k, u, hk, rfl, rfl, ho, hb⟩ := hrel
      have hln := HDL.out k
      have hbl : b0' < w3.heap.size := by have h0 := World.block_lt_of_cell? _ _ (HC.out w (Below.refl _ _) 0 (by omega)); have h1 : b0' < w.heap.size := h0; have := b3.size; omega
      by_cases hlt : k < 5
      · have hltd : decide ((k : Int) < 5) = true := by simp; omega
        have e1 := below_cell hb (HC2.out k hlt)
        have hbw := b3.trans (hb.mono b3.size)
        have e2 := HC.out wr hbw k hlt
        have hix := ix (P := Tryz.prog) (T := 22) (n := 5) (cap := cap) Tryz.underlying22 cells_int64 has_int64 (ao := some ⟨b0', off, none⟩) (b := b0') (off := off) (fun _ => rfl) (k := k) hlt _ rfl
        have hix2 := ix (P := Tryz.prog) (T := 22) (n := 5) (cap := c2) Tryz.underlying22 cells_int64 has_int64 (ao := some ⟨g2, 0, none⟩) (b := g2) (off := 0) (fun _ => rfl) (k := k) hlt _ rfl
        rw [Nat.mul_one] at hix hix2
        rw [Nat.zero_add] at hix2
        have hcek := fun w' => HCE.out k w' hlt
        have hs := HST.out k
        generalize hdv : devV ls r k = D at *
        generalize ls.getD k 0 = x at *
        generalize r.getD k 0 = y at *
        have HS : SDev g2 b0' k (off + k) x y wr.drew := (SDev.mk e1 e2).later (bdrew wr)
        have ho := own_later ho (bdrew wr)
        have hb := hb.drew
        have lo := own_lo ho
        have HCEK := Lib.hid hcek; clear hcek
        have HST1 := Lib.hid hs; clear hs
        have HO := Lib.hid ho; clear ho
        have LO := Lib.hid lo; clear lo
        clear e1 e2
        go_wp2_with fail
        refine startX (SDev g2 b0' k (off + k) x y) [] (by kernel_rfl) ?_
        generalize wr.drew = wr at *
        refine takeX 0 23 u rfl rfl (by kernel_rfl) (fun _ _ _ h => h) (by rfl) (fun _ _ => rfl) HS ?_
        simp only [List.setIfInBounds_toArray, List.set_cons_zero, List.set_cons_succ]
        refine takeX 1 24 (.slice (some ⟨g2, 0, none⟩) 5 c2) rfl rfl (by kernel_rfl) (fun _ _ _ h => h) (by rfl) (fun _ _ => rfl) HS ?_
        simp only [List.setIfInBounds_toArray, List.set_cons_zero, List.set_cons_succ]
        refine takeX 2 25 (.int .i64 k) rfl rfl (by kernel_rfl) (fun _ _ _ h => h) (by rfl) (fun _ _ => rfl) HS ?_
        simp only [List.setIfInBounds_toArray, List.set_cons_zero, List.set_cons_succ]
        refine takeX 3 26 (.pointer (some ⟨g2, k, none⟩)) rfl rfl (by kernel_rfl) (fun _ _ _ h => h) (by rfl) (fun _ _ => by (go_simp; done)) HS ?_
        simp only [List.setIfInBounds_toArray, List.set_cons_zero, List.set_cons_succ]
        refine takeX 4 27 (.int .i64 x) rfl rfl (by kernel_rfl) (fun _ _ _ h => h) (by rfl) (fun w' hS => by (have q0 := hS.e1; clear hS HS; go_simp; done)) HS ?_
        simp only [List.setIfInBounds_toArray, List.set_cons_zero, List.set_cons_succ]
        refine takeX 5 28 (.slice (some ⟨b0', off, none⟩) 5 cap) rfl rfl (by kernel_rfl) (fun _ _ _ h => h) (by rfl) (fun _ _ => rfl) HS ?_
        simp only [List.setIfInBounds_toArray, List.set_cons_zero, List.set_cons_succ]
        refine takeX 6 29 (.int .i64 k) rfl rfl (by kernel_rfl) (fun _ _ _ h => h) (by rfl) (fun _ _ => rfl) HS ?_
        simp only [List.setIfInBounds_toArray, List.set_cons_zero, List.set_cons_succ]
        refine takeX 7 30 (.pointer (some ⟨b0', off + k, none⟩)) rfl rfl (by kernel_rfl) (fun _ _ _ h => h) (by rfl) (fun _ _ => by (go_simp; done)) HS ?_
        simp only [List.setIfInBounds_toArray, List.set_cons_zero, List.set_cons_succ]
        refine takeX 8 31 (.int .i64 y) rfl rfl (by kernel_rfl) (fun _ _ _ h => h) (by rfl) (fun w' hS => by (have q0 := hS.e2; clear hS HS; go_simp; done)) HS ?_
        simp only [List.setIfInBounds_toArray, List.set_cons_zero, List.set_cons_succ]
        refine stepX 9 (by kernel_rfl) rfl ?_
        intro K hK
        go_simp
        refine (HCEK.out _).mono ?_
        rintro _ _ ⟨rfl, rfl⟩
        refine hK _ _ (fun _ => HS) ?_
        clear hK K
        refine stepX 10 (by kernel_rfl) rfl ?_
        intro K hK
        go_simp
        have kb : Below wr.heap.size wr (wr.alloc (.cells #[.int .i64 D] 2)) := (Below.refl _ _).alloc (Nat.le_refl _) _
        have HS0 := HS
        have HS := HS.later kb
        refine hK _ _ (fun _ => HS) ?_
        clear hK K
        refine stepX 11 (by kernel_rfl) rfl ?_
        intro K hK
        refine sapp1_I (.tmp 23) (.tmp 33) wr w3.heap.size wr.heap.size u (devK ls r k) D (by rfl) (by rfl) rfl (by rfl) (by rfl) HO.out (by omega) hb.size ?_
        intro v2 w9 o9 q9
        have hb2 := Only.below hb q9 hb.size (fun j e => LO.out j e)
        have hs2 : w3.heap.size ≤ w9.heap.size := hb2.size
        have HS : SDev g2 b0' k (off + k) x y w9 := ⟨cell_only q9 HS0.e1 (fun (e : u.ownBlock = some g2) => by have := LO.out g2 e; omega), cell_only q9 HS0.e2 (fun (e : u.ownBlock = some b0') => by have := LO.out b0' e; omega)⟩
        refine hK _ _ (fun _ => HS) ?_
        clear hK K
        simp only [Act.put, List.setIfInBounds_toArray, List.set_cons_zero, List.set_cons_succ]
        refine stepX 12 (by kernel_rfl) rfl ?_
        intro K hK
        go_simp
        refine hK _ _ (fun _ => HS) ?_
        clear hK K
        refine doneX (by kernel_rfl) ?_ _
        go_wp2
        go_roundw
        case rel => exact ⟨k + 1, v2, by omega, by go_num, rfl, by rw [← HST1.out]; exact o9, hb2⟩
        case measure => simp [intOf]; omega
      · obtain rfl : k = 5 := by omega
        have hltd : decide ((5 : Int) < 5) = false := rfl
        have b9 := b3.trans (hb.mono b3.size)
        have ho := own_base ho b3.size
        have HO := Lib.hid ho; clear ho
        go_wp2
        go_returns
        exact ⟨_, rfl, HO.out, b9⟩

end Go.Proofs.YtmeeibcbhjifbaaGreat

