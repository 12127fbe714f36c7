/- Several texts of the proofs in one: SS, SS2. -/
import Derived.Test.YtmeeibcbhjifbaaGB
import Derived.Test.YtmeeibcbhjifbaaGC
/- Slices of slices of numbers, and models: read, sized, copied, compared. -/
namespace Go.Proofs.Ytmeeibcbhjifbaa
set_option linter.unusedVariables false
open Go.RowKit Go.Proofs.Bell Go.BigFrame

def nv : Value := .slice none 0 0
/-- `v` is a slice of slices that hold these numbers -/
def RdSS (w : World) (v : Value) (ws : List (List Int)) : Prop :=
  ∃ us : List Value, us.length = ws.length ∧ Rd w v ws.length us ∧ ∀ k, k < ws.length → Rd w (us.getD k nv) (ws.getD k []).length (ints (ws.getD k []))
theorem RdSS.later {w w' : World} {v : Value} {ws : List (List Int)} (h : RdSS w v ws) (hb : Below w.heap.size w w') : RdSS w' v ws := by
  obtain ⟨us, h1, h2, h3⟩ := h
  exact ⟨us, h1, h2.later hb, fun k hk => (h3 k hk).later hb⟩
theorem getDv {us : List Value} {k : Nat} (h : k < us.length) : us[k]? = some (us.getD k nv) := by simp [List.getD, h]

theorem cells_SS : Try.prog.cellsOf 38 = 1 := by kernel_rfl
theorem has_SS : (Try.prog.info? 38).isSome = true := by kernel_rfl
theorem info_SS : (Try.prog.info? 38).map (fun i => (i.zero, i.size, i.bytes)) = some (some (.slice none 0 0), 1, 24) := by kernel_rfl

theorem szInt64S_c (v : Value) (n : Nat) (xs : List Value) (left : Int) (w : World) (h : Rd w v n xs) (_h1 : 0 ≤ left) (_h2 : left ≤ 9223372036854775807) :
    Calls Try.prog 50 #[v, .int .i64 left] w (RetS (.int .i64 (leftOf left n)) w) := by
  obtain ⟨hn, ao, cap, b, off, rfl, hao, hcell⟩ := h.open
  clear hcell hao h
  by_cases hl : left - n < 0 <;>
  · go_enter Try.func50, Try.ntmps50
    go_wp2
    go_returns
    exact RetS.mk (int_eq (by unfold leftOf; split <;> omega))

def lensK (ws : List (List Int)) : Nat → Nat
  | 0 => 0
  | k + 1 => lensK ws k + (ws.getD k []).length
theorem lensK_mono (ws : List (List Int)) : ∀ n k, lensK ws k ≤ lensK ws (k + n)
  | 0, k => Nat.le_refl _
  | n + 1, k => by have := lensK_mono ws n k; rw [← Nat.add_assoc, lensK]; omega
theorem lensK_le (ws : List (List Int)) {k n : Nat} (h : k ≤ n) : lensK ws k ≤ lensK ws n := by
  have := lensK_mono ws (n - k) k
  rwa [show k + (n - k) = n by omega] at this
def SzSS (ws : List (List Int)) : Nat := ws.length + lensK ws ws.length

set_option maxHeartbeats 800000 in
theorem szInt64SS_c (v : Value) (ws : List (List Int)) (left : Int) (w : World) (h : RdSS w v ws) (h1 : 0 ≤ left) (h2 : left ≤ 9223372036854775807) :
    Calls Try.prog 51 #[v, .int .i64 left] w (RetS (.int .i64 (leftOf left (SzSS ws))) w) := by
  unfold SzSS
  obtain ⟨us, hus, hr, hrow⟩ := h
  have hle := fun k (hk : k ≤ ws.length) => lensK_le ws hk
  generalize hn : ws.length = n at *
  have HN := Lib.hid hn; clear hn
  obtain ⟨hn, ao, cap, bb, off, rfl, hao, hcell⟩ := hr.open
  clear hr
  by_cases hl : left - n < 0
  · clear hcell hrow hle
    go_enter Try.func51, Try.ntmps51
    go_wp2
    go_returns
    exact RetS.mk (int_eq (by rw [leftOf_neg (by omega)]))
  · have HROW := Lib.hid hrow; clear hrow
    have HLE := Lib.hid hle; clear hle
    go_enter Try.func51, Try.ntmps51
    go_wp2_with fail
    go_loop [5, 1] (fun i l => ∃ (k : Nat), k ≤ n ∧ i = .int .i64 k ∧ l = .int .i64 (left - n - lensK ws k) ∧ 0 ≤ left - n - lensK ws k) (fun i _ => n - (intOf i).toNat)
    case atStart => exact ⟨0, Nat.zero_le _, rfl, by simp [lensK], by simp [lensK]; omega⟩
    case round =>
      obtain ⟨k, hk, rfl, rfl, hpos⟩ := hrel
      by_cases hlt : k < n
      · have hix := ix (P := Try.prog) (T := 39) (cap := cap) Try.underlying39 cells_SS has_SS hao (k := k) (by omega) _ rfl
        rw [Nat.mul_one] at hix
        have hc : w.cell? ⟨bb, off + k, none⟩ = some (us.getD k nv) := hcell _ (Below.refl _ _) _ _ (by omega) (getDv (by omega))
        have hL : lensK ws (k + 1) = lensK ws k + (ws.getD k []).length := rfl
        have hrd := HROW.out k hlt
        have hle := HLE.out (k + 1) (by omega)
        rw [hL] at hle
        have hsz := szInt64S_c (us.getD k nv) (ws.getD k []).length _ (left - n - lensK ws k) w hrd (by omega) (by omega)
        clear hcell hrd
        generalize (ws.getD k []).length = m at *
        generalize us.getD k nv = u at *
        generalize lensK ws k = L at *
        have HL := Lib.hid hL; clear hL
        by_cases h3 : left - n - L - m < 0
        · have e : leftOf (left - n - L) m = -1 := by unfold leftOf; rw [if_pos h3]
          rw [e] at hsz
          have HSZ := Lib.hid hsz; clear hsz
          clear e
          go_wp2_with (go_at_call 50; refine HSZ.out.mono ?_; rintro _ _ ⟨rfl, rfl⟩)
          go_returns
          exact RetS.mk (int_eq (by rw [leftOf_neg (by omega)]))
        · have e : leftOf (left - n - L) m = left - n - L - m := by unfold leftOf; rw [if_neg h3]
          rw [e] at hsz
          have HSZ := Lib.hid hsz; clear hsz
          clear e
          go_wp2_with (go_at_call 50; refine HSZ.out.mono ?_; rintro _ _ ⟨rfl, rfl⟩)
          go_round
          case rel => exact ⟨k + 1, by omega, by go_num, int_eq (by rw [HL.out]; omega), by rw [HL.out]; omega⟩
          case measure => simp [intOf]; omega
      · obtain rfl : k = n := by omega
        clear hcell
        go_wp2
        go_returns
        exact RetS.mk (int_eq (by rw [leftOf_pos (by omega)]; omega))

def leftM (left : Int) (zs : List Int) (ws : List (List Int)) (bs : List Int) : Int := leftOf left (zs.length + SzSS ws + bs.length)
theorem leftM_pos {left : Int} {zs : List Int} {ws : List (List Int)} {bs : List Int} (h : (zs.length : Int) + SzSS ws + bs.length ≤ left) : leftM left zs ws bs = left - zs.length - SzSS ws - bs.length := by
  unfold leftM; rw [leftOf_pos (by omega)]; omega
theorem leftM_neg {left : Int} {zs : List Int} {ws : List (List Int)} {bs : List Int} (h : left < (zs.length : Int) + SzSS ws + bs.length) : leftM left zs ws bs = -1 := by
  unfold leftM; rw [leftOf_neg (by omega)]

set_option maxHeartbeats 1600000 in
theorem szModel_c (zv wv bv : Value) (zs : List Int) (ws : List (List Int)) (bs : List Int) (left : Int) (w : World) (hz : Rd w zv zs.length (ints zs)) (hw : RdSS w wv ws) (hb : Rd w bv bs.length (ints bs)) (h1 : 0 ≤ left) (h2 : left ≤ 9223372036854775807) :
    Calls Try.prog 16 #[.agg #[zv, wv, bv], .int .i64 left] w (RetB (.int .i64 (leftM left zs ws bs)) w) := by
  have sz := fun w' (hb' : Below w.heap.size w w') => szInt64S_c zv zs.length _ left w' (hz.later hb') h1 h2
  have sw := fun l w' q1 q2 (hb' : Below w.heap.size w w') => szInt64SS_c wv ws l w' (hw.later hb') q1 q2
  have sb := fun l w' q1 q2 (hb' : Below w.heap.size w w') => szInt64S_c bv bs.length _ l w' (hb.later hb') q1 q2
  unfold leftM
  generalize zs.length = a at *
  generalize SzSS ws = b at *
  generalize bs.length = c at *
  clear hz hw hb
  by_cases q1 : left - a < 0
  · rw [leftOf_neg (by omega)] at sz
    rw [leftOf_neg (by omega)]
    have SZ := Lib.hid sz; clear sz
    have SW := Lib.hid sw; clear sw
    have SB := Lib.hid sb; clear sb
    go_enter Try.func16, Try.ntmps16
    go_wp2_with (go_at_call 50; refine (SZ.out _ (by go_grown)).mono ?_; rintro _ _ ⟨rfl, rfl⟩)
    go_returns
    exact RetB.mk rfl (by go_grown)
  · rw [leftOf_pos (by omega)] at sz
    have sw := sw (left - a)
    have SZ := Lib.hid sz; clear sz
    by_cases q2 : left - a - b < 0
    · rw [leftOf_neg (by omega)] at sw
      rw [leftOf_neg (by omega)]
      have SW := Lib.hid sw; clear sw
      have SB := Lib.hid sb; clear sb
      go_enter Try.func16, Try.ntmps16
      go_wp2_with fail
      refine (SZ.out _ (by go_grown)).mono ?_
      rintro _ _ ⟨rfl, rfl⟩
      go_wp2_with (go_at_call 51; refine (SW.out _ (by omega) (by omega) (by go_grown)).mono ?_; rintro _ _ ⟨rfl, rfl⟩)
      go_returns
      exact RetB.mk rfl (by go_grown)
    · rw [leftOf_pos (by omega)] at sw
      have sb := sb (left - a - b)
      have SW := Lib.hid sw; clear sw
      by_cases q3 : left - a - b - c < 0
      · rw [leftOf_neg (by omega)] at sb
        rw [leftOf_neg (by omega)]
        have SB := Lib.hid sb; clear sb
        go_enter Try.func16, Try.ntmps16
        go_wp2_with fail
        refine (SZ.out _ (by go_grown)).mono ?_
        rintro _ _ ⟨rfl, rfl⟩
        go_wp2_with fail
        refine (SW.out _ (by omega) (by omega) (by go_grown)).mono ?_
        rintro _ _ ⟨rfl, rfl⟩
        go_wp2_with fail
        refine (SB.out _ (by omega) (by omega) (by go_grown)).mono ?_
        rintro _ _ ⟨rfl, rfl⟩
        go_wp2
        go_returns
        exact RetB.mk rfl (by go_grown)
      · rw [leftOf_pos (by omega)] at sb
        rw [leftOf_pos (by omega)]
        have SB := Lib.hid sb; clear sb
        go_enter Try.func16, Try.ntmps16
        go_wp2_with fail
        refine (SZ.out _ (by go_grown)).mono ?_
        rintro _ _ ⟨rfl, rfl⟩
        go_wp2_with fail
        refine (SW.out _ (by omega) (by omega) (by go_grown)).mono ?_
        rintro _ _ ⟨rfl, rfl⟩
        go_wp2_with fail
        refine (SB.out _ (by omega) (by omega) (by go_grown)).mono ?_
        rintro _ _ ⟨rfl, rfl⟩
        go_wp2
        go_returns
        exact RetB.mk (int_eq (by omega)) (by go_grown)

/-- a slice of slices of one's own: its values are `us`; all blocks lie from `lo` to `hi` -/
structure OwnSS (lo hi : Nat) (w : World) (v : Value) (us : List Value) (ws : List (List Int)) : Prop where
  len : us.length = ws.length
  row : w.ownsRow lo 38 1 v ws.length us
  rowh : ∀ b, v.ownBlock = some b → b < hi
  own : ∀ k, k < ws.length → OwnI lo w (us.getD k nv) (ws.getD k [])
  top : ∀ k, k < ws.length → ∀ b, (us.getD k nv).ownBlock = some b → b < hi
  dis : ∀ j k, j < k → k < ws.length → ∀ b, (us.getD k nv).ownBlock = some b → (us.getD j nv).ownBlock ≠ some b
  cd : ∀ k, k < ws.length → ∀ b, (us.getD k nv).ownBlock = some b → v.ownBlock ≠ some b
theorem OwnSS.rd {lo hi : Nat} {w : World} {v : Value} {us : List Value} {ws : List (List Int)} (h : OwnSS lo hi w v us ws) : RdSS w v ws :=
  ⟨us, h.len, Rd.of_own h.row, fun k hk => Rd.of_own (h.own k hk)⟩
theorem OwnSS.later {lo hi : Nat} {w w' : World} {v : Value} {us : List Value} {ws : List (List Int)} (h : OwnSS lo hi w v us ws) (hb : Below w.heap.size w w') : OwnSS lo hi w' v us ws :=
  ⟨h.len, own_later h.row hb, h.rowh, fun k hk => own_later (h.own k hk) hb, h.top, h.dis, h.cd⟩
theorem OwnSS.only {lo hi : Nat} {S : Nat → Prop} {w w' : World} {v : Value} {us : List Value} {ws : List (List Int)} (h : OwnSS lo hi w v us ws) (ho : Only S w w') (hn : ∀ b, S b → ¬ (lo ≤ b ∧ b < hi)) : OwnSS lo hi w' v us ws :=
  ⟨h.len, own_only h.row ho (fun b hb hS => hn b hS ⟨own_lo h.row b hb, h.rowh b hb⟩), h.rowh, fun k hk => own_only (h.own k hk) ho (fun b hb hS => hn b hS ⟨own_lo (h.own k hk) b hb, h.top k hk b hb⟩), h.top, h.dis, h.cd⟩
theorem OwnSS.wide {lo hi lo' hi' : Nat} {w : World} {v : Value} {us : List Value} {ws : List (List Int)} (h : OwnSS lo hi w v us ws) (h1 : lo' ≤ lo) (h2 : hi ≤ hi') : OwnSS lo' hi' w v us ws :=
  ⟨h.len, own_base h.row h1, fun b hb => Nat.lt_of_lt_of_le (h.rowh b hb) h2, fun k hk => own_base (h.own k hk) h1, fun k hk b hb => Nat.lt_of_lt_of_le (h.top k hk b hb) h2, h.dis, h.cd⟩

def RetOwnSS (ws : List (List Int)) (w : World) (e : Ending) (w' : World) : Prop := ∃ v us, e = .returned v ∧ OwnSS w.heap.size w'.heap.size w' v us ws ∧ Below w.heap.size w w'

theorem set_getD {us : List Value} {k j : Nat} {u : Value} (hk : k < us.length) : (us.set k u).getD j nv = if j = k then u else us.getD j nv := by
  by_cases h : j = k
  · subst h; simp [List.getD, hk]
  · rw [if_neg h]; simp [List.getD, List.getElem?_set_ne (Ne.symm h)]

/-- what the copy has so far -/
structure SoFar (B n : Nat) (ws : List (List Int)) (k : Nat) (us : List Value) (wr : World) : Prop where
  len : us.length = n
  row : wr.ownsRow B 38 1 (.slice (some ⟨B, 0, none⟩) n n) n us
  own : ∀ j, j < k → OwnI (B + 1) wr (us.getD j nv) (ws.getD j [])
  dis : ∀ i j, i < j → j < k → ∀ b, (us.getD j nv).ownBlock = some b → (us.getD i nv).ownBlock ≠ some b
theorem SoFar.next {B n k : Nat} {ws : List (List Int)} {us : List Value} {wr w1 : World} {u : Value} (h : SoFar B n ws k us wr) (hk : k < n) (hB : B < wr.heap.size) (hb : Below wr.heap.size wr w1) (ho : OwnI wr.heap.size w1 u (ws.getD k [])) :
    SoFar B n ws (k + 1) (us.set k u) (w1.setCell ⟨B, k, none⟩ u) := by
  have hkl : k < us.length := by rw [h.len]; exact hk
  have hrow := own_later h.row hb
  refine ⟨by simp [h.len], (hrow.stored k u).1, fun j hj => ?_, fun i j hij hj b hb' => ?_⟩
  · rw [set_getD hkl]
    by_cases e : j = k
    · subst e; rw [if_pos rfl]
      exact ownsRow_setCell_below (own_base ho (by omega)) (by simp) _
    · rw [if_neg e]
      exact ownsRow_setCell_below (own_later (h.own j (by omega)) hb) (by simp) _
  · rw [set_getD hkl] at hb' ⊢
    rw [if_neg (by omega)]
    by_cases e : j = k
    · subst e
      rw [if_pos rfl] at hb'
      intro hc
      have h1 := own_lo ho b hb'
      have h2 := own_lt (h.own i (by omega)) b hc
      omega
    · rw [if_neg e] at hb'
      exact h.dis i j hij (by omega) b hb'
theorem SoFar.done {B n : Nat} {ws : List (List Int)} {us : List Value} {wr : World} (h : SoFar B n ws n us wr) (hn : ws.length = n) : OwnSS B wr.heap.size wr (.slice (some ⟨B, 0, none⟩) n n) us ws := by
  subst hn
  exact ⟨h.len, h.row, own_lt h.row, fun k hk => own_base (h.own k hk) (by omega), fun k hk => own_lt (h.own k hk), fun j k hj hk => h.dis j k hj hk, fun k hk b hb hv => by
    have h1 := own_lo (h.own k hk) b hb
    simp [Value.ownBlock] at hv
    omega⟩

set_option maxHeartbeats 1600000 in
theorem toInt64SS_c (v : Value) (ws : List (List Int)) (w : World) (h : RdSS w v ws) (hsz : SzSS ws ≤ 1048576) :
    Calls Try.prog 56 #[v] w (RetOwnSS ws w) := by
  obtain ⟨i0, hi, hz0, hz1, hz2⟩ := info_parts info_SS
  obtain ⟨us0, hus, hr, hrow⟩ := h
  have hle := fun k (hk : k ≤ ws.length) => lensK_le ws hk
  unfold SzSS at hsz
  generalize hn : ws.length = n at *
  have HN := Lib.hid hn; clear hn
  obtain ⟨hn, ao, cap, bb, off, rfl, hao, hcell⟩ := hr.open
  clear hr
  have HROW := Lib.hid hrow; clear hrow
  have HLE := Lib.hid hle; clear hle
  go_enter Try.func56, Try.ntmps56
  go_wp2_with (at_make; refine wpList_make_full _ rfl _ _ 39 rfl w.heap.size 38 i0 (.slice none 0 0) 1 Try.underlying39 hi hz0 hz1 _ _ _ _ n rfl rfl (by omega) (by omega) ?b2 ?b3 (Nat.le_refl _) ?_)
  case b2 => rw [hz2]; omega
  case b3 => unfold maxLen; omega
  intro w0 hown0 hg0
  have hb0 : Below w.heap.size w w0 := (Below.refl _ _).grown hg0 (Nat.le_refl _) (fun k h => by cases h)
  go_wp2
  go_loopw [4] (fun i wr => ∃ (k : Nat) (us : List Value), k ≤ n ∧ i = .int .i64 k ∧ SoFar w.heap.size n ws k us wr ∧ Below w.heap.size w wr)
    (fun i _ => n - (intOf i).toNat)
  case atStart => exact ⟨0, _, Nat.zero_le _, rfl, ⟨by simpa using hown0.1, hown0, fun j h => by omega, fun i j _ h => by omega⟩, hb0⟩
  case round =>
    obtain ⟨k, us, hk, rfl, hsf, hb⟩ := hrel
    have hB : w.heap.size < wr.heap.size := own_lt hsf.row _ rfl
    by_cases hlt : k < n
    · have hix := ix (P := Try.prog) (T := 39) (cap := cap) Try.underlying39 cells_SS has_SS hao (k := k) (by omega) _ rfl
      rw [Nat.mul_one] at hix
      have hc : wr.cell? ⟨bb, off + k, none⟩ = some (us0.getD k nv) := hcell _ hb _ _ (by omega) (getDv (by omega))
      have hrd := HROW.out k hlt
      have hle := HLE.out (k + 1) (by omega)
      rw [lensK] at hle
      have ht := toInt64S_c (us0.getD k nv) (ws.getD k []) wr (hrd.later hb) (by omega)
      have hnx := fun w1 u => hsf.next (w1 := w1) (u := u) hlt hB
      have hrow := hsf.row
      have HT := Lib.hid ht; clear ht
      have HNX := Lib.hid hnx; clear hnx
      have HSF := Lib.hid hsf; clear hsf
      clear hcell hrd hle
      generalize us0.getD k nv = u0 at *
      go_wp2_with (go_at_call 55; refine HT.out.mono ?_; rintro _ w1 ⟨u, rfl, ho, hb1⟩; have hown1 := own_later hrow hb1; have hf0 := hown1.frozenAt k; have hg0 := hown1.cellAt k (by omega); obtain ⟨x0, hx0⟩ : ∃ x, us[k]? = some x := ⟨_, List.getElem?_eq_getElem (by have := hrow.1; omega)⟩; rw [hx0] at hg0; have HOWN1 := Lib.hid hown1; clear hown1; have HO := Lib.hid ho; clear ho; obtain ⟨ao1, cap1, g1, rfl, _, _⟩ := own_open HO.out)
      go_roundw
      case rel => exact ⟨k + 1, _, by omega, by go_num, HNX.out _ _ hb1 HO.out, ((hb.trans (hb1.mono hb.size)).setCell (Nat.le_refl _) _)⟩
      case measure => simp [intOf]; omega
    · obtain rfl : k = n := by omega
      have hd := hsf.done HN.out
      clear hcell
      go_wp2
      go_returns
      exact ⟨_, _, rfl, hd, hb⟩

end Go.Proofs.Ytmeeibcbhjifbaa

/- Models: copied, compared. -/
namespace Go.Proofs.Ytmeeibcbhjifbaa
set_option linter.unusedVariables false
open Go.RowKit Go.Proofs.Bell Go.BigFrame

def eqWs (xs ys : List (List Int)) : Bool := decide (xs = ys)
theorem eqWs_refl (xs : List (List Int)) : eqWs xs xs = true := decide_eq_true rfl
theorem getDw {ws : List (List Int)} {k : Nat} (h : k < ws.length) : ws.getD k [] = ws[k] := by simp [List.getD, h]

set_option maxHeartbeats 800000 in
theorem eqInt64SS_c (v v' : Value) (ps qs : List (List Int)) (w : World) (h : RdSS w v ps) (h' : RdSS w v' qs) :
    Calls Try.prog 65 #[v, v'] w (RetD (.bool (eqWs ps qs)) w) := by
  obtain ⟨us, hus, hr, hrow⟩ := h
  obtain ⟨us', hus', hr', hrow'⟩ := h'
  generalize hn : ps.length = n at *
  generalize hm : qs.length = m at *
  have HN := Lib.hid hn; clear hn
  have HM := Lib.hid hm; clear hm
  obtain ⟨hn, ao, cap, b, off, rfl, hao, hcell⟩ := hr.open
  obtain ⟨hn', ao', cap', b', off', rfl, hao', hcell'⟩ := hr'.open
  clear hr hr'
  by_cases hlen : n = m
  · subst hlen
    have HROW := Lib.hid hrow; clear hrow
    have HROW' := Lib.hid hrow'; clear hrow'
    go_enter Try.func65, Try.ntmps65
    go_wp2_with fail
    go_loopw [5] (fun i wr => ∃ (k : Nat), k ≤ n ∧ i = .int .i64 k ∧ ps.take k = qs.take k ∧ Dr w wr) (fun i _ => n - (intOf i).toNat)
    case atStart => exact ⟨0, Nat.zero_le _, rfl, rfl, Dr.refl _⟩
    case round =>
      obtain ⟨k, hk, rfl, hx, hd⟩ := hrel
      have hb := hd.below
      have HX := Lib.hid hx; clear hx
      by_cases hlt : k < n
      · have hltp : k < ps.length := by rw [HN.out]; exact hlt
        have hltq : k < qs.length := by rw [HM.out]; exact hlt
        have hix := ix (P := Try.prog) (T := 39) (cap := cap) Try.underlying39 cells_SS has_SS hao hlt k rfl
        have hix' := ix (P := Try.prog) (T := 39) (cap := cap') Try.underlying39 cells_SS has_SS hao' hlt k rfl
        rw [Nat.mul_one] at hix hix'
        have hc1 : wr.cell? ⟨b, off + k, none⟩ = some (us.getD k nv) := hcell _ hb _ _ (by omega) (getDv (by omega))
        have hd1 : wr.cell? ⟨b', off' + k, none⟩ = some (us'.getD k nv) := hcell' _ hb _ _ (by omega) (getDv (by omega))
        have r1 := HROW.out k hlt
        have r2 := HROW'.out k hlt
        rw [getDw hltp] at r1
        rw [getDw hltq] at r2
        have he := fun w' (hd' : Dr wr w') => eqInt64S_c (us.getD k nv) (us'.getD k nv) ps[k] qs[k] w' (r1.later (hd.trans hd').below) (r2.later (hd.trans hd').below)
        have hp : eqZs ps[k] qs[k] = true → ps.take (k + 1) = qs.take (k + 1) := fun h2 => take_step HX.out hltp hltq (of_decide_eq_true h2)
        have hq : eqZs ps[k] qs[k] = false → eqWs ps qs = false := fun h => by
          refine decide_eq_false fun e => of_decide_eq_false h ?_
          subst e; rfl
        have HE := Lib.hid he; clear he
        have HP := Lib.hid hp; clear hp
        have HQ := Lib.hid hq; clear hq
        clear hcell hcell' r1 r2
        generalize ps[k] = p at *
        generalize qs[k] = q at *
        generalize us.getD k nv = u at *
        generalize us'.getD k nv = u' at *
        cases t1 : eqZs p q <;> rw [t1] at HE
        · go_wp2_with fail
          go_quiet ((go_at_call 64; exact quietD (HE.out _ ⟨_, rfl⟩)))
          clear hc1 hd1
          go_wp2
          go_returns
          exact RetD.mk (bool_eq (HQ.out t1).symm) (by first | exact Dr.refl _ | exact Dr.next (by assumption) _ | assumption | exact ⟨_, rfl⟩ | exact ⟨_, World.drewN_drewN _ _ _⟩)
        · go_wp2_with fail
          go_quiet ((go_at_call 64; exact quietD (HE.out _ ⟨_, rfl⟩)))
          clear hc1 hd1
          go_wp2
          go_roundw
          case rel => exact ⟨k + 1, by omega, by go_num, HP.out t1, (by first | exact Dr.refl _ | exact Dr.next (by assumption) _ | assumption | exact ⟨_, rfl⟩ | exact ⟨_, World.drewN_drewN _ _ _⟩)⟩
          case measure => simp [intOf]; omega
      · obtain rfl : k = n := by omega
        go_wp2
        go_returns
        refine RetD.mk (bool_eq ?_) (by first | exact Dr.refl _ | exact Dr.next (by assumption) _ | assumption | exact ⟨_, rfl⟩ | exact ⟨_, World.drewN_drewN _ _ _⟩)
        have e := HX.out
        rw [List.take_of_length_le (by rw [HN.out]; exact Nat.le_refl _), List.take_of_length_le (by rw [HM.out]; exact Nat.le_refl _)] at e
        exact (decide_eq_true e).symm
  · clear hrow hrow'
    go_enter Try.func65, Try.ntmps65
    go_wp2
    go_returns
    refine RetD.mk (bool_eq (decide_eq_false ?_).symm) (Dr.refl _)
    rintro rfl
    exact hlen (HN.out.symm.trans HM.out)

/-- a model of one's own, whose blocks lie from `lo` to `hi` -/
structure OwnM (lo hi : Nat) (w : World) (zv wv bv : Value) (us : List Value) (zs : List Int) (ws : List (List Int)) (bs : List Int) : Prop where
  z : OwnI lo w zv zs
  zh : ∀ b, zv.ownBlock = some b → b < hi
  s : OwnSS lo hi w wv us ws
  b : OwnI lo w bv bs
  bh : ∀ b, bv.ownBlock = some b → b < hi
  zb : ∀ b, zv.ownBlock = some b → bv.ownBlock ≠ some b
  zc : ∀ b, zv.ownBlock = some b → wv.ownBlock ≠ some b
  zu : ∀ k, k < ws.length → ∀ b, (us.getD k nv).ownBlock = some b → zv.ownBlock ≠ some b
  bu : ∀ k, k < ws.length → ∀ b, (us.getD k nv).ownBlock = some b → bv.ownBlock ≠ some b
  bc : ∀ b, bv.ownBlock = some b → wv.ownBlock ≠ some b
theorem OwnM.later {lo hi : Nat} {w w' : World} {zv wv bv : Value} {us : List Value} {zs : List Int} {ws : List (List Int)} {bs : List Int} (h : OwnM lo hi w zv wv bv us zs ws bs) (hb : Below w.heap.size w w') : OwnM lo hi w' zv wv bv us zs ws bs :=
  ⟨own_later h.z hb, h.zh, h.s.later hb, own_later h.b hb, h.bh, h.zb, h.zc, h.zu, h.bu, h.bc⟩
theorem OwnM.only {lo hi : Nat} {S : Nat → Prop} {w w' : World} {zv wv bv : Value} {us : List Value} {zs : List Int} {ws : List (List Int)} {bs : List Int} (h : OwnM lo hi w zv wv bv us zs ws bs) (ho : Only S w w') (hn : ∀ b, S b → ¬ (lo ≤ b ∧ b < hi)) : OwnM lo hi w' zv wv bv us zs ws bs :=
  ⟨own_only h.z ho (fun b hb hS => hn b hS ⟨own_lo h.z b hb, h.zh b hb⟩), h.zh, h.s.only ho hn, own_only h.b ho (fun b hb hS => hn b hS ⟨own_lo h.b b hb, h.bh b hb⟩), h.bh, h.zb, h.zc, h.zu, h.bu, h.bc⟩
def RetOwnM (zs : List Int) (ws : List (List Int)) (bs : List Int) (w : World) (e : Ending) (w' : World) : Prop :=
  ∃ zv wv bv us, e = .returned (.agg #[zv, wv, bv]) ∧ OwnM w.heap.size w'.heap.size w' zv wv bv us zs ws bs ∧ Below w.heap.size w w'

theorem OwnSS.set {lo hi : Nat} {w : World} {v : Value} {us : List Value} {ws : List (List Int)} (h : OwnSS lo hi w v us ws) {a : Addr} (ha : a.block < lo) (u : Value) : OwnSS lo hi (w.setCell a u) v us ws :=
  ⟨h.len, ownsRow_setCell_below h.row ha u, h.rowh, fun k hk => ownsRow_setCell_below (h.own k hk) ha u, h.top, h.dis, h.cd⟩
theorem OwnM.of3 {l0 l1 l2 l3 hi : Nat} {w : World} {zv wv bv : Value} {us : List Value} {zs : List Int} {ws : List (List Int)} {bs : List Int} (hz : OwnI l1 w zv zs) (hzh : ∀ b, zv.ownBlock = some b → b < l2) (hs : OwnSS l2 l3 w wv us ws) (hb : OwnI l3 w bv bs)
    (hbh : ∀ b, bv.ownBlock = some b → b < hi) (h0 : l0 ≤ l1) (h1 : l1 ≤ l2) (h2 : l2 ≤ l3) (h3 : l3 ≤ hi) : OwnM l0 hi w zv wv bv us zs ws bs :=
  ⟨own_base hz h0, fun b h => by have := hzh b h; omega, hs.wide (by omega) h3, own_base hb (by omega), hbh,
   fun b h h' => by have := hzh b h; have := own_lo hb b h'; omega,
   fun b h h' => by have := hzh b h; have := own_lo hs.row b h'; omega,
   fun k hk b h h' => by have := own_lo (hs.own k hk) b h; have := hzh b h'; omega,
   fun k hk b h h' => by have := hs.top k hk b h; have := own_lo hb b h'; omega,
   fun b h h' => by have := own_lo hb b h; have := hs.rowh b h'; omega⟩

theorem OwnM.set {lo hi : Nat} {w : World} {zv wv bv : Value} {us : List Value} {zs : List Int} {ws : List (List Int)} {bs : List Int} (h : OwnM lo hi w zv wv bv us zs ws bs) {a : Addr} (ha : a.block < lo) (u : Value) : OwnM lo hi (w.setCell a u) zv wv bv us zs ws bs :=
  ⟨ownsRow_setCell_below h.z ha u, h.zh, h.s.set ha u, ownsRow_setCell_below h.b ha u, h.bh, h.zb, h.zc, h.zu, h.bu, h.bc⟩
theorem OwnM.wide {lo hi lo' hi' : Nat} {w : World} {zv wv bv : Value} {us : List Value} {zs : List Int} {ws : List (List Int)} {bs : List Int} (h : OwnM lo hi w zv wv bv us zs ws bs) (h1 : lo' ≤ lo) (h2 : hi ≤ hi') : OwnM lo' hi' w zv wv bv us zs ws bs :=
  ⟨own_base h.z h1, fun b hb => Nat.lt_of_lt_of_le (h.zh b hb) h2, h.s.wide h1 h2, own_base h.b h1, fun b hb => Nat.lt_of_lt_of_le (h.bh b hb) h2, h.zb, h.zc, h.zu, h.bu, h.bc⟩

set_option maxHeartbeats 1600000 in
theorem toModel_c (zv wv bv : Value) (zs : List Int) (ws : List (List Int)) (bs : List Int) (w : World) (hz : Rd w zv zs.length (ints zs)) (hw : RdSS w wv ws) (hb : Rd w bv bs.length (ints bs)) (h1 : zs.length ≤ 1048576) (h2 : SzSS ws ≤ 1048576) (h3 : bs.length ≤ 1048576) :
    Calls Try.prog 18 #[.agg #[zv, wv, bv]] w (RetOwnM zs ws bs w) := by
  have tz := fun w' (hb' : Below w.heap.size w w') => toInt64S_c zv zs w' (hz.later hb') (by omega)
  have tw := fun w' (hb' : Below w.heap.size w w') => toInt64SS_c wv ws w' (hw.later hb') h2
  have tb := fun w' (hb' : Below w.heap.size w w') => toInt64S_c bv bs w' (hb.later hb') (by omega)
  have TZ := Lib.hid tz; clear tz
  have TW := Lib.hid tw; clear tw
  have TB := Lib.hid tb; clear tb
  clear hz hw hb h1 h2 h3
  go_enter Try.func18, Try.ntmps18
  have b0 : Below w.heap.size w w := Below.refl _ _
  have z0 : w.heap.size ≤ w.heap.size := Nat.le_refl _
  go_wp2_with fail
  refine (TZ.out _ (by go_grown)).mono ?_
  rintro _ w1 ⟨x1, rfl, n1, r1⟩
  have s1 : Below w.heap.size w w1 := Below.trans (by go_grown) (r1.mono (by simp; try omega))
  have b1 := b0.trans (s1.mono z0)
  have z1 := b1.size
  have y1 := s1.size
  have v1 : w.heap.size + 3 ≤ w1.heap.size := by have := r1.size; simp only [World.size_alloc] at this; omega
  have c0_0_1 := below_cell r1 (p := ⟨w.heap.size, 0, none⟩) (v := zv) (by simp [go_sem])
  have c0_1_1 := below_cell r1 (p := ⟨w.heap.size, 1, none⟩) (v := wv) (by simp [go_sem])
  have c0_2_1 := below_cell r1 (p := ⟨w.heap.size, 2, none⟩) (v := bv) (by simp [go_sem])
  have c1_0_1 := below_cell r1 (p := ⟨w.heap.size + 1, 0, none⟩) (v := .slice none 0 0) (by simp [go_sem])
  have c1_1_1 := below_cell r1 (p := ⟨w.heap.size + 1, 1, none⟩) (v := .slice none 0 0) (by simp [go_sem])
  have c1_2_1 := below_cell r1 (p := ⟨w.heap.size + 1, 2, none⟩) (v := .slice none 0 0) (by simp [go_sem])
  have c2_0_1 := below_cell r1 (p := ⟨w.heap.size + 1 + 1, 0, none⟩) (v := .slice none 0 0) (by simp [go_sem])
  have c2_1_1 := below_cell r1 (p := ⟨w.heap.size + 1 + 1, 1, none⟩) (v := .slice none 0 0) (by simp [go_sem])
  have c2_2_1 := below_cell r1 (p := ⟨w.heap.size + 1 + 1, 2, none⟩) (v := .slice none 0 0) (by simp [go_sem])
  have f0_1 : ∀ j, w1.frozen? ⟨w.heap.size, j, none⟩ = false := fun j => (r1.frozen (p := ⟨w.heap.size, j, none⟩) (by simp [go_sem])).trans (by simp [go_sem])
  have f1_1 : ∀ j, w1.frozen? ⟨w.heap.size + 1, j, none⟩ = false := fun j => (r1.frozen (p := ⟨w.heap.size + 1, j, none⟩) (by simp [go_sem])).trans (by simp [go_sem])
  have f2_1 : ∀ j, w1.frozen? ⟨w.heap.size + 1 + 1, j, none⟩ = false := fun j => (r1.frozen (p := ⟨w.heap.size + 1 + 1, j, none⟩) (by simp [go_sem])).trans (by simp [go_sem])
  clear r1
  obtain ⟨a1, p1, rfl⟩ := own_shape n1
  have lt1 := own_lt n1
  have LT1 := Lib.hid lt1; clear lt1
  have o1 : OwnI (w.heap.size + 3) w1 (.slice a1 zs.length p1) zs := own_base n1 (by simp)
  clear n1
  have O1 := Lib.hid o1; clear o1
  go_wp2_with fail
  obtain ⟨w2, hw2⟩ : ∃ x, x = w1.setCell ⟨w.heap.size + 1 + 1, 0, none⟩ (.slice a1 zs.length p1) := ⟨_, rfl⟩
  rw [← hw2]
  have b2 : Below w.heap.size w w2 := by rw [hw2]; exact b1.setCell (show w.heap.size ≤ w.heap.size + 1 + 1 by omega) _
  have z2 := b2.size
  have y2 : w2.heap.size = w1.heap.size := by rw [hw2]; simp
  have c0_0_2 : w2.cell? ⟨w.heap.size, 0, none⟩ = some (zv) := by rw [hw2, World.cell?_setCell_other _ _ _ _ (by simp; try omega)]; exact c0_0_1
  have c0_1_2 : w2.cell? ⟨w.heap.size, 1, none⟩ = some (wv) := by rw [hw2, World.cell?_setCell_other _ _ _ _ (by simp; try omega)]; exact c0_1_1
  have c0_2_2 : w2.cell? ⟨w.heap.size, 2, none⟩ = some (bv) := by rw [hw2, World.cell?_setCell_other _ _ _ _ (by simp; try omega)]; exact c0_2_1
  have f0_2 : ∀ j, w2.frozen? ⟨w.heap.size, j, none⟩ = false := fun j => by rw [hw2, World.frozen?_setCell]; exact f0_1 j
  have c1_0_2 : w2.cell? ⟨w.heap.size + 1, 0, none⟩ = some (.slice none 0 0) := by rw [hw2, World.cell?_setCell_other _ _ _ _ (by simp; try omega)]; exact c1_0_1
  have c1_1_2 : w2.cell? ⟨w.heap.size + 1, 1, none⟩ = some (.slice none 0 0) := by rw [hw2, World.cell?_setCell_other _ _ _ _ (by simp; try omega)]; exact c1_1_1
  have c1_2_2 : w2.cell? ⟨w.heap.size + 1, 2, none⟩ = some (.slice none 0 0) := by rw [hw2, World.cell?_setCell_other _ _ _ _ (by simp; try omega)]; exact c1_2_1
  have f1_2 : ∀ j, w2.frozen? ⟨w.heap.size + 1, j, none⟩ = false := fun j => by rw [hw2, World.frozen?_setCell]; exact f1_1 j
  have c2_0_2 : w2.cell? ⟨w.heap.size + 1 + 1, 0, none⟩ = some (.slice a1 zs.length p1) := by rw [hw2]; exact World.cell?_setCell_same _ _ _ c2_0_1
  have c2_1_2 : w2.cell? ⟨w.heap.size + 1 + 1, 1, none⟩ = some (.slice none 0 0) := by rw [hw2, World.cell?_setCell_other _ _ _ _ (by simp; try omega)]; exact c2_1_1
  have c2_2_2 : w2.cell? ⟨w.heap.size + 1 + 1, 2, none⟩ = some (.slice none 0 0) := by rw [hw2, World.cell?_setCell_other _ _ _ _ (by simp; try omega)]; exact c2_2_1
  have f2_2 : ∀ j, w2.frozen? ⟨w.heap.size + 1 + 1, j, none⟩ = false := fun j => by rw [hw2, World.frozen?_setCell]; exact f2_1 j
  clear c0_0_1
  clear c0_1_1
  clear c0_2_1
  clear f0_1
  clear c1_0_1
  clear c1_1_1
  clear c1_2_1
  clear f1_1
  clear c2_0_1
  clear c2_1_1
  clear c2_2_1
  clear f2_1
  have o1_2 : OwnI (w.heap.size + 3) w2 (.slice a1 zs.length p1) zs := by rw [hw2]; exact ownsRow_setCell_below O1.out (show w.heap.size + 1 + 1 < _ by omega) _
  have O1_2 := Lib.hid o1_2; clear o1_2
  clear hw2
  refine (TW.out _ b2).mono ?_
  rintro _ w3 ⟨x3, us, rfl, n3, r3⟩
  have s3 := r3
  have b3 := b2.trans (s3.mono z2)
  have z3 := b3.size
  have y3 := s3.size
  have k0_3 := c0_0_2
  have c0_0_3 := below_cell s3 c0_0_2; clear c0_0_2
  have c0_1_3 := below_cell s3 c0_1_2; clear c0_1_2
  have c0_2_3 := below_cell s3 c0_2_2; clear c0_2_2
  have k1_3 := c1_0_2
  have c1_0_3 := below_cell s3 c1_0_2; clear c1_0_2
  have c1_1_3 := below_cell s3 c1_1_2; clear c1_1_2
  have c1_2_3 := below_cell s3 c1_2_2; clear c1_2_2
  have k2_3 := c2_0_2
  have c2_0_3 := below_cell s3 c2_0_2; clear c2_0_2
  have c2_1_3 := below_cell s3 c2_1_2; clear c2_1_2
  have c2_2_3 := below_cell s3 c2_2_2; clear c2_2_2
  have f0_3 : ∀ j, w3.frozen? ⟨w.heap.size, j, none⟩ = false := fun j => (s3.frozen (p := ⟨w.heap.size, j, none⟩) (show w.heap.size < _ from World.block_lt_of_cell? _ ⟨w.heap.size, 0, none⟩ k0_3)).trans (f0_2 j); clear f0_2
  have f1_3 : ∀ j, w3.frozen? ⟨w.heap.size + 1, j, none⟩ = false := fun j => (s3.frozen (p := ⟨w.heap.size + 1, j, none⟩) (show w.heap.size + 1 < _ from World.block_lt_of_cell? _ ⟨w.heap.size + 1, 0, none⟩ k1_3)).trans (f1_2 j); clear f1_2
  have f2_3 : ∀ j, w3.frozen? ⟨w.heap.size + 1 + 1, j, none⟩ = false := fun j => (s3.frozen (p := ⟨w.heap.size + 1 + 1, j, none⟩) (show w.heap.size + 1 + 1 < _ from World.block_lt_of_cell? _ ⟨w.heap.size + 1 + 1, 0, none⟩ k2_3)).trans (f2_2 j); clear f2_2
  have o1_3 := own_later O1_2.out s3; have O1_3 := Lib.hid o1_3; clear o1_3
  obtain ⟨a3, p3, rfl⟩ := own_shape n3.row
  have O3 := Lib.hid n3; clear n3
  go_wp2_with fail
  obtain ⟨w4, hw4⟩ : ∃ x, x = w3.setCell ⟨w.heap.size + 1 + 1, 1, none⟩ (.slice a3 ws.length p3) := ⟨_, rfl⟩
  rw [← hw4]
  have b4 : Below w.heap.size w w4 := by rw [hw4]; exact b3.setCell (show w.heap.size ≤ w.heap.size + 1 + 1 by omega) _
  have z4 := b4.size
  have y4 : w4.heap.size = w3.heap.size := by rw [hw4]; simp
  have c0_0_4 : w4.cell? ⟨w.heap.size, 0, none⟩ = some (zv) := by rw [hw4, World.cell?_setCell_other _ _ _ _ (by simp; try omega)]; exact c0_0_3
  have c0_1_4 : w4.cell? ⟨w.heap.size, 1, none⟩ = some (wv) := by rw [hw4, World.cell?_setCell_other _ _ _ _ (by simp; try omega)]; exact c0_1_3
  have c0_2_4 : w4.cell? ⟨w.heap.size, 2, none⟩ = some (bv) := by rw [hw4, World.cell?_setCell_other _ _ _ _ (by simp; try omega)]; exact c0_2_3
  have f0_4 : ∀ j, w4.frozen? ⟨w.heap.size, j, none⟩ = false := fun j => by rw [hw4, World.frozen?_setCell]; exact f0_3 j
  have c1_0_4 : w4.cell? ⟨w.heap.size + 1, 0, none⟩ = some (.slice none 0 0) := by rw [hw4, World.cell?_setCell_other _ _ _ _ (by simp; try omega)]; exact c1_0_3
  have c1_1_4 : w4.cell? ⟨w.heap.size + 1, 1, none⟩ = some (.slice none 0 0) := by rw [hw4, World.cell?_setCell_other _ _ _ _ (by simp; try omega)]; exact c1_1_3
  have c1_2_4 : w4.cell? ⟨w.heap.size + 1, 2, none⟩ = some (.slice none 0 0) := by rw [hw4, World.cell?_setCell_other _ _ _ _ (by simp; try omega)]; exact c1_2_3
  have f1_4 : ∀ j, w4.frozen? ⟨w.heap.size + 1, j, none⟩ = false := fun j => by rw [hw4, World.frozen?_setCell]; exact f1_3 j
  have c2_0_4 : w4.cell? ⟨w.heap.size + 1 + 1, 0, none⟩ = some (.slice a1 zs.length p1) := by rw [hw4, World.cell?_setCell_other _ _ _ _ (by simp; try omega)]; exact c2_0_3
  have c2_1_4 : w4.cell? ⟨w.heap.size + 1 + 1, 1, none⟩ = some (.slice a3 ws.length p3) := by rw [hw4]; exact World.cell?_setCell_same _ _ _ c2_1_3
  have c2_2_4 : w4.cell? ⟨w.heap.size + 1 + 1, 2, none⟩ = some (.slice none 0 0) := by rw [hw4, World.cell?_setCell_other _ _ _ _ (by simp; try omega)]; exact c2_2_3
  have f2_4 : ∀ j, w4.frozen? ⟨w.heap.size + 1 + 1, j, none⟩ = false := fun j => by rw [hw4, World.frozen?_setCell]; exact f2_3 j
  clear c0_0_3
  clear c0_1_3
  clear c0_2_3
  clear f0_3
  clear c1_0_3
  clear c1_1_3
  clear c1_2_3
  clear f1_3
  clear c2_0_3
  clear c2_1_3
  clear c2_2_3
  clear f2_3
  have o1_4 : OwnI (w.heap.size + 3) w4 (.slice a1 zs.length p1) zs := by rw [hw4]; exact ownsRow_setCell_below O1_3.out (show w.heap.size + 1 + 1 < _ by omega) _
  have O1_4 := Lib.hid o1_4; clear o1_4
  have o3_4 : OwnSS w2.heap.size w3.heap.size w4 (.slice a3 ws.length p3) us ws := by rw [hw4]; exact O3.out.set (show w.heap.size + 1 + 1 < _ by omega) _
  have O3_4 := Lib.hid o3_4; clear o3_4
  clear hw4
  refine (TB.out _ b4).mono ?_
  rintro _ w5 ⟨x5, rfl, n5, r5⟩
  have s5 := r5
  have b5 := b4.trans (s5.mono z4)
  have z5 := b5.size
  have y5 := s5.size
  have k0_5 := c0_0_4
  have c0_0_5 := below_cell s5 c0_0_4; clear c0_0_4
  have c0_1_5 := below_cell s5 c0_1_4; clear c0_1_4
  have c0_2_5 := below_cell s5 c0_2_4; clear c0_2_4
  have k1_5 := c1_0_4
  have c1_0_5 := below_cell s5 c1_0_4; clear c1_0_4
  have c1_1_5 := below_cell s5 c1_1_4; clear c1_1_4
  have c1_2_5 := below_cell s5 c1_2_4; clear c1_2_4
  have k2_5 := c2_0_4
  have c2_0_5 := below_cell s5 c2_0_4; clear c2_0_4
  have c2_1_5 := below_cell s5 c2_1_4; clear c2_1_4
  have c2_2_5 := below_cell s5 c2_2_4; clear c2_2_4
  have f0_5 : ∀ j, w5.frozen? ⟨w.heap.size, j, none⟩ = false := fun j => (s5.frozen (p := ⟨w.heap.size, j, none⟩) (show w.heap.size < _ from World.block_lt_of_cell? _ ⟨w.heap.size, 0, none⟩ k0_5)).trans (f0_4 j); clear f0_4
  have f1_5 : ∀ j, w5.frozen? ⟨w.heap.size + 1, j, none⟩ = false := fun j => (s5.frozen (p := ⟨w.heap.size + 1, j, none⟩) (show w.heap.size + 1 < _ from World.block_lt_of_cell? _ ⟨w.heap.size + 1, 0, none⟩ k1_5)).trans (f1_4 j); clear f1_4
  have f2_5 : ∀ j, w5.frozen? ⟨w.heap.size + 1 + 1, j, none⟩ = false := fun j => (s5.frozen (p := ⟨w.heap.size + 1 + 1, j, none⟩) (show w.heap.size + 1 + 1 < _ from World.block_lt_of_cell? _ ⟨w.heap.size + 1 + 1, 0, none⟩ k2_5)).trans (f2_4 j); clear f2_4
  have o1_5 := own_later O1_4.out s5; have O1_5 := Lib.hid o1_5; clear o1_5
  have o3_5 := O3_4.out.later s5; have O3_5 := Lib.hid o3_5; clear o3_5
  obtain ⟨a5, p5, rfl⟩ := own_shape n5
  have lt5 := own_lt n5
  have LT5 := Lib.hid lt5; clear lt5
  have O5 := Lib.hid n5; clear n5
  go_wp2_with fail
  have hM : OwnM (w.heap.size + 3) w5.heap.size w5 (.slice a1 zs.length p1) (.slice a3 ws.length p3) (.slice a5 bs.length p5) us zs ws bs :=
    OwnM.of3 O1_5.out (fun b h => by have := LT1.out b h; omega) (O3_5.out.wide (Nat.le_refl _) (show w3.heap.size ≤ w4.heap.size by omega)) O5.out LT5.out (Nat.le_refl _) (by omega) (by omega) (by omega)
  have HM := Lib.hid hM; clear hM
  refine bodyPost_ret (v := .agg #[.slice a1 zs.length p1, .slice a3 ws.length p3, .slice a5 bs.length p5]) (by simp [results, Try.results18, go_sem, *]) rfl ?_
  refine ⟨_, _, _, us, rfl, ((((HM.out.set ?_ _).set ?_ _).set ?_ _).set ?_ _).wide (by omega) (by simp), ((((b5.setCell ?_ _).setCell ?_ _).setCell ?_ _).setCell ?_ _)⟩
  all_goals (simp; try omega)

set_option maxHeartbeats 800000 in
theorem eqModel_c (zv wv bv zv' wv' bv' : Value) (zs : List Int) (ws : List (List Int)) (bs : List Int) (w : World) (hz : Rd w zv zs.length (ints zs)) (hw : RdSS w wv ws) (hb : Rd w bv bs.length (ints bs))
    (hz' : Rd w zv' zs.length (ints zs)) (hw' : RdSS w wv' ws) (hb' : Rd w bv' bs.length (ints bs)) :
    Calls Try.prog 21 #[.agg #[zv, wv, bv], .agg #[zv', wv', bv']] w (RetB (.bool true) w) := by
  have ez := fun w' (h : Below w.heap.size w w') => eqInt64S_c zv zv' zs zs w' (hz.later h) (hz'.later h)
  have ew := fun w' (h : Below w.heap.size w w') => eqInt64SS_c wv wv' ws ws w' (hw.later h) (hw'.later h)
  have eb := fun w' (h : Below w.heap.size w w') => eqInt64S_c bv bv' bs bs w' (hb.later h) (hb'.later h)
  rw [eqZs_refl] at ez eb
  rw [eqWs_refl] at ew
  have EZ := Lib.hid ez; clear ez
  have EW := Lib.hid ew; clear ew
  have EB := Lib.hid eb; clear eb
  clear hz hw hb hz' hw' hb'
  go_enter Try.func21, Try.ntmps21
  have b0 : Below w.heap.size w w := Below.refl _ _
  have z0 : w.heap.size ≤ w.heap.size := Nat.le_refl _
  go_wp2_with fail
  refine (EZ.out _ (by go_grown)).mono ?_
  rintro _ w1 ⟨rfl, d1⟩
  have r1 := Dr.below d1; clear d1
  have s1 : Below w.heap.size w w1 := Below.trans (by go_grown) (r1.mono (by simp; try omega))
  have b1 := b0.trans (s1.mono z0)
  have z1 := b1.size
  have y1 := s1.size
  have c0_0_1 := below_cell r1 (p := ⟨w.heap.size, 0, none⟩) (v := zv) (by simp [go_sem])
  have c0_1_1 := below_cell r1 (p := ⟨w.heap.size, 1, none⟩) (v := wv) (by simp [go_sem])
  have c0_2_1 := below_cell r1 (p := ⟨w.heap.size, 2, none⟩) (v := bv) (by simp [go_sem])
  have c1_0_1 := below_cell r1 (p := ⟨w.heap.size + 1, 0, none⟩) (v := zv') (by simp [go_sem])
  have c1_1_1 := below_cell r1 (p := ⟨w.heap.size + 1, 1, none⟩) (v := wv') (by simp [go_sem])
  have c1_2_1 := below_cell r1 (p := ⟨w.heap.size + 1, 2, none⟩) (v := bv') (by simp [go_sem])
  clear r1
  go_wp2_with fail
  refine (EW.out _ b1).mono ?_
  rintro _ w2 ⟨rfl, d2⟩
  have r2 := Dr.below d2; clear d2
  have s2 := r2
  have b2 := b1.trans (s2.mono z1)
  have z2 := b2.size
  have y2 := s2.size
  have c0_0_2 := below_cell s2 c0_0_1; clear c0_0_1
  have c0_1_2 := below_cell s2 c0_1_1; clear c0_1_1
  have c0_2_2 := below_cell s2 c0_2_1; clear c0_2_1
  have c1_0_2 := below_cell s2 c1_0_1; clear c1_0_1
  have c1_1_2 := below_cell s2 c1_1_1; clear c1_1_1
  have c1_2_2 := below_cell s2 c1_2_1; clear c1_2_1
  clear r2
  go_wp2_with fail
  refine (EB.out _ b2).mono ?_
  rintro _ w3 ⟨rfl, d3⟩
  have r3 := Dr.below d3; clear d3
  have s3 := r3
  have b3 := b2.trans (s3.mono z2)
  have z3 := b3.size
  have y3 := s3.size
  have c0_0_3 := below_cell s3 c0_0_2; clear c0_0_2
  have c0_1_3 := below_cell s3 c0_1_2; clear c0_1_2
  have c0_2_3 := below_cell s3 c0_2_2; clear c0_2_2
  have c1_0_3 := below_cell s3 c1_0_2; clear c1_0_2
  have c1_1_3 := below_cell s3 c1_1_2; clear c1_1_2
  have c1_2_3 := below_cell s3 c1_2_2; clear c1_2_2
  clear r3
  go_wp2
  go_returns
  exact RetB.mk (rfl) b3

end Go.Proofs.Ytmeeibcbhjifbaa

