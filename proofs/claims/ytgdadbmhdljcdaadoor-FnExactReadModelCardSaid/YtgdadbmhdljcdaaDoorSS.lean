/- Slices of slices of numbers, and models: read, sized, copied, compared. -/
import Derived.Test.YtgdadbmhdljcdaaDoorGC
namespace Go.Proofs.YtgdadbmhdljcdaaDoor
set_option linter.unusedVariables false
open Go.RowKit Go.Proofs.Bell Go.BigFrame

def nv : Value := .slice none 0 0
/-- `v` is a slice of slices that hold these numbers -/
def RdSS (w : World) (v : Value) (ws : List (List Int)) : Prop :=
  ∃ us : List Value, us.length = ws.length ∧ Rd w v ws.length us ∧ ∀ k, k < ws.length → Rd w (us.getD k nv) (ws.getD k []).length (ints (ws.getD k []))
theorem RdSS.later {w w' : World} {v : Value} {ws : List (List Int)} (h : RdSS w v ws) (hb : Below w.heap.size w w') : RdSS w' v ws := by
  obtain ⟨us, h1, h2, h3⟩ := h
  exact ⟨us, h1, h2.later hb, fun k hk => (h3 k hk).later hb⟩
theorem getDv {us : List Value} {k : Nat} (h : k < us.length) : us[k]? = some (us.getD k nv) := by simp [List.getD, h]

theorem cells_SS : Tryd.prog.cellsOf 22 = 1 := by kernel_rfl
theorem has_SS : (Tryd.prog.info? 22).isSome = true := by kernel_rfl
theorem info_SS : (Tryd.prog.info? 22).map (fun i => (i.zero, i.size, i.bytes)) = some (some (.slice none 0 0), 1, 24) := by kernel_rfl

theorem szInt64S_c (v : Value) (n : Nat) (xs : List Value) (left : Int) (w : World) (h : Rd w v n xs) (_h1 : 0 ≤ left) (_h2 : left ≤ 9223372036854775807) :
    Calls Tryd.prog 71 #[v, .int .i64 left] w (RetS (.int .i64 (leftOf left n)) w) := by
  obtain ⟨hn, ao, cap, b, off, rfl, hao, hcell⟩ := h.open
  clear hcell hao h
  by_cases hl : left - n < 0 <;>
  · go_enter Tryd.func71, Tryd.ntmps71
    go_wp2
    go_returns
    exact RetS.mk (int_eq (by unfold leftOf; split <;> omega))

def lensK (ws : List (List Int)) : Nat → Nat
  | 0 => 0
  | k + 1 => lensK ws k + (ws.getD k []).length
theorem lensK_mono (ws : List (List Int)) : ∀ n k, lensK ws k ≤ lensK ws (k + n)
  | 0, k => Nat.le_refl _
  | n + 1, k => by have := lensK_mono ws n k; rw [← Nat.add_assoc, lensK]; omega
theorem lensK_le (ws : List (List Int)) {k n : Nat} (h : k ≤ n) : lensK ws k ≤ lensK ws n := by
  have := lensK_mono ws (n - k) k
  rwa [show k + (n - k) = n by omega] at this
def SzSS (ws : List (List Int)) : Nat := ws.length + lensK ws ws.length

set_option maxHeartbeats 800000 in
theorem szInt64SS_c (v : Value) (ws : List (List Int)) (left : Int) (w : World) (h : RdSS w v ws) (h1 : 0 ≤ left) (h2 : left ≤ 9223372036854775807) :
    Calls Tryd.prog 72 #[v, .int .i64 left] w (RetS (.int .i64 (leftOf left (SzSS ws))) w) := by
  unfold SzSS
  obtain ⟨us, hus, hr, hrow⟩ := h
  have hle := fun k (hk : k ≤ ws.length) => lensK_le ws hk
  generalize hn : ws.length = n at *
  have HN := Lib.hid hn; clear hn
  obtain ⟨hn, ao, cap, bb, off, rfl, hao, hcell⟩ := hr.open
  clear hr
  by_cases hl : left - n < 0
  · clear hcell hrow hle
    go_enter Tryd.func72, Tryd.ntmps72
    go_wp2
    go_returns
    exact RetS.mk (int_eq (by rw [leftOf_neg (by omega)]))
  · have HROW := Lib.hid hrow; clear hrow
    have HLE := Lib.hid hle; clear hle
    go_enter Tryd.func72, Tryd.ntmps72
    go_wp2_with fail
    go_loop [5, 1] (fun i l => ∃ (k : Nat), k ≤ n ∧ i = .int .i64 k ∧ l = .int .i64 (left - n - lensK ws k) ∧ 0 ≤ left - n - lensK ws k) (fun i _ => n - (intOf i).toNat)
    case atStart => exact ⟨0, Nat.zero_le _, rfl, by simp [lensK], by simp [lensK]; omega⟩
    case round =>
      obtain ⟨k, hk, rfl, rfl, hpos⟩ := hrel
      by_cases hlt : k < n
      · have hix := ix (P := Tryd.prog) (T := 23) (cap := cap) Tryd.underlying23 cells_SS has_SS hao (k := k) (by omega) _ rfl
        rw [Nat.mul_one] at hix
        have hc : w.cell? ⟨bb, off + k, none⟩ = some (us.getD k nv) := hcell _ (Below.refl _ _) _ _ (by omega) (getDv (by omega))
        have hL : lensK ws (k + 1) = lensK ws k + (ws.getD k []).length := rfl
        have hrd := HROW.out k hlt
        have hle := HLE.out (k + 1) (by omega)
        rw [hL] at hle
        have hsz := szInt64S_c (us.getD k nv) (ws.getD k []).length _ (left - n - lensK ws k) w hrd (by omega) (by omega)
        clear hcell hrd
        generalize (ws.getD k []).length = m at *
        generalize us.getD k nv = u at *
        generalize lensK ws k = L at *
        have HL := Lib.hid hL; clear hL
        by_cases h3 : left - n - L - m < 0
        · have e : leftOf (left - n - L) m = -1 := by unfold leftOf; rw [if_pos h3]
          rw [e] at hsz
          have HSZ := Lib.hid hsz; clear hsz
          clear e
          go_wp2_with (go_at_call 71; refine HSZ.out.mono ?_; rintro _ _ ⟨rfl, rfl⟩)
          go_returns
          exact RetS.mk (int_eq (by rw [leftOf_neg (by omega)]))
        · have e : leftOf (left - n - L) m = left - n - L - m := by unfold leftOf; rw [if_neg h3]
          rw [e] at hsz
          have HSZ := Lib.hid hsz; clear hsz
          clear e
          go_wp2_with (go_at_call 71; refine HSZ.out.mono ?_; rintro _ _ ⟨rfl, rfl⟩)
          go_round
          case rel => exact ⟨k + 1, by omega, by go_num, int_eq (by rw [HL.out]; omega), by rw [HL.out]; omega⟩
          case measure => simp [intOf]; omega
      · obtain rfl : k = n := by omega
        clear hcell
        go_wp2
        go_returns
        exact RetS.mk (int_eq (by rw [leftOf_pos (by omega)]; omega))

def leftM (left : Int) (zs : List Int) (ws : List (List Int)) (bs : List Int) : Int := leftOf left (zs.length + SzSS ws + bs.length)
theorem leftM_pos {left : Int} {zs : List Int} {ws : List (List Int)} {bs : List Int} (h : (zs.length : Int) + SzSS ws + bs.length ≤ left) : leftM left zs ws bs = left - zs.length - SzSS ws - bs.length := by
  unfold leftM; rw [leftOf_pos (by omega)]; omega
theorem leftM_neg {left : Int} {zs : List Int} {ws : List (List Int)} {bs : List Int} (h : left < (zs.length : Int) + SzSS ws + bs.length) : leftM left zs ws bs = -1 := by
  unfold leftM; rw [leftOf_neg (by omega)]

set_option maxHeartbeats 1600000 in
theorem szModel_c (zv wv bv : Value) (zs : List Int) (ws : List (List Int)) (bs : List Int) (left : Int) (w : World) (hz : Rd w zv zs.length (ints zs)) (hw : RdSS w wv ws) (hb : Rd w bv bs.length (ints bs)) (h1 : 0 ≤ left) (h2 : left ≤ 9223372036854775807) :
    Calls Tryd.prog 28 #[.agg #[zv, wv, bv], .int .i64 left] w (RetB (.int .i64 (leftM left zs ws bs)) w) := by
  have sz := fun w' (hb' : Below w.heap.size w w') => szInt64S_c zv zs.length _ left w' (hz.later hb') h1 h2
  have sw := fun l w' q1 q2 (hb' : Below w.heap.size w w') => szInt64SS_c wv ws l w' (hw.later hb') q1 q2
  have sb := fun l w' q1 q2 (hb' : Below w.heap.size w w') => szInt64S_c bv bs.length _ l w' (hb.later hb') q1 q2
  unfold leftM
  generalize zs.length = a at *
  generalize SzSS ws = b at *
  generalize bs.length = c at *
  clear hz hw hb
  by_cases q1 : left - a < 0
  · rw [leftOf_neg (by omega)] at sz
    rw [leftOf_neg (by omega)]
    have SZ := Lib.hid sz; clear sz
    have SW := Lib.hid sw; clear sw
    have SB := Lib.hid sb; clear sb
    go_enter Tryd.func28, Tryd.ntmps28
    go_wp2_with (go_at_call 71; refine (SZ.out _ (by go_grown)).mono ?_; rintro _ _ ⟨rfl, rfl⟩)
    go_returns
    exact RetB.mk rfl (by go_grown)
  · rw [leftOf_pos (by omega)] at sz
    have sw := sw (left - a)
    have SZ := Lib.hid sz; clear sz
    by_cases q2 : left - a - b < 0
    · rw [leftOf_neg (by omega)] at sw
      rw [leftOf_neg (by omega)]
      have SW := Lib.hid sw; clear sw
      have SB := Lib.hid sb; clear sb
      go_enter Tryd.func28, Tryd.ntmps28
      go_wp2_with fail
      refine (SZ.out _ (by go_grown)).mono ?_
      rintro _ _ ⟨rfl, rfl⟩
      go_wp2_with (go_at_call 72; refine (SW.out _ (by omega) (by omega) (by go_grown)).mono ?_; rintro _ _ ⟨rfl, rfl⟩)
      go_returns
      exact RetB.mk rfl (by go_grown)
    · rw [leftOf_pos (by omega)] at sw
      have sb := sb (left - a - b)
      have SW := Lib.hid sw; clear sw
      by_cases q3 : left - a - b - c < 0
      · rw [leftOf_neg (by omega)] at sb
        rw [leftOf_neg (by omega)]
        have SB := Lib.hid sb; clear sb
        go_enter Tryd.func28, Tryd.ntmps28
        go_wp2_with fail
        refine (SZ.out _ (by go_grown)).mono ?_
        rintro _ _ ⟨rfl, rfl⟩
        go_wp2_with fail
        refine (SW.out _ (by omega) (by omega) (by go_grown)).mono ?_
        rintro _ _ ⟨rfl, rfl⟩
        go_wp2_with fail
        refine (SB.out _ (by omega) (by omega) (by go_grown)).mono ?_
        rintro _ _ ⟨rfl, rfl⟩
        go_wp2
        go_returns
        exact RetB.mk rfl (by go_grown)
      · rw [leftOf_pos (by omega)] at sb
        rw [leftOf_pos (by omega)]
        have SB := Lib.hid sb; clear sb
        go_enter Tryd.func28, Tryd.ntmps28
        go_wp2_with fail
        refine (SZ.out _ (by go_grown)).mono ?_
        rintro _ _ ⟨rfl, rfl⟩
        go_wp2_with fail
        refine (SW.out _ (by omega) (by omega) (by go_grown)).mono ?_
        rintro _ _ ⟨rfl, rfl⟩
        go_wp2_with fail
        refine (SB.out _ (by omega) (by omega) (by go_grown)).mono ?_
        rintro _ _ ⟨rfl, rfl⟩
        go_wp2
        go_returns
        exact RetB.mk (int_eq (by omega)) (by go_grown)

/-- a slice of slices of one's own: its values are `us`; all blocks lie from `lo` to `hi` -/
structure OwnSS (lo hi : Nat) (w : World) (v : Value) (us : List Value) (ws : List (List Int)) : Prop where
  len : us.length = ws.length
  row : w.ownsRow lo 22 1 v ws.length us
  rowh : ∀ b, v.ownBlock = some b → b < hi
  own : ∀ k, k < ws.length → OwnI lo w (us.getD k nv) (ws.getD k [])
  top : ∀ k, k < ws.length → ∀ b, (us.getD k nv).ownBlock = some b → b < hi
  dis : ∀ j k, j < k → k < ws.length → ∀ b, (us.getD k nv).ownBlock = some b → (us.getD j nv).ownBlock ≠ some b
  cd : ∀ k, k < ws.length → ∀ b, (us.getD k nv).ownBlock = some b → v.ownBlock ≠ some b
theorem OwnSS.rd {lo hi : Nat} {w : World} {v : Value} {us : List Value} {ws : List (List Int)} (h : OwnSS lo hi w v us ws) : RdSS w v ws :=
  ⟨us, h.len, Rd.of_own h.row, fun k hk => Rd.of_own (h.own k hk)⟩
theorem OwnSS.later {lo hi : Nat} {w w' : World} {v : Value} {us : List Value} {ws : List (List Int)} (h : OwnSS lo hi w v us ws) (hb : Below w.heap.size w w') : OwnSS lo hi w' v us ws :=
  ⟨h.len, own_later h.row hb, h.rowh, fun k hk => own_later (h.own k hk) hb, h.top, h.dis, h.cd⟩
theorem OwnSS.only {lo hi : Nat} {S : Nat → Prop} {w w' : World} {v : Value} {us : List Value} {ws : List (List Int)} (h : OwnSS lo hi w v us ws) (ho : Only S w w') (hn : ∀ b, S b → ¬ (lo ≤ b ∧ b < hi)) : OwnSS lo hi w' v us ws :=
  ⟨h.len, own_only h.row ho (fun b hb hS => hn b hS ⟨own_lo h.row b hb, h.rowh b hb⟩), h.rowh, fun k hk => own_only (h.own k hk) ho (fun b hb hS => hn b hS ⟨own_lo (h.own k hk) b hb, h.top k hk b hb⟩), h.top, h.dis, h.cd⟩
theorem OwnSS.wide {lo hi lo' hi' : Nat} {w : World} {v : Value} {us : List Value} {ws : List (List Int)} (h : OwnSS lo hi w v us ws) (h1 : lo' ≤ lo) (h2 : hi ≤ hi') : OwnSS lo' hi' w v us ws :=
  ⟨h.len, own_base h.row h1, fun b hb => Nat.lt_of_lt_of_le (h.rowh b hb) h2, fun k hk => own_base (h.own k hk) h1, fun k hk b hb => Nat.lt_of_lt_of_le (h.top k hk b hb) h2, h.dis, h.cd⟩

def RetOwnSS (ws : List (List Int)) (w : World) (e : Ending) (w' : World) : Prop := ∃ v us, e = .returned v ∧ OwnSS w.heap.size w'.heap.size w' v us ws ∧ Below w.heap.size w w'

theorem set_getD {us : List Value} {k j : Nat} {u : Value} (hk : k < us.length) : (us.set k u).getD j nv = if j = k then u else us.getD j nv := by
  by_cases h : j = k
  · subst h; simp [List.getD, hk]
  · rw [if_neg h]; simp [List.getD, List.getElem?_set_ne (Ne.symm h)]

/-- what the copy has so far -/
structure SoFar (B n : Nat) (ws : List (List Int)) (k : Nat) (us : List Value) (wr : World) : Prop where
  len : us.length = n
  row : wr.ownsRow B 22 1 (.slice (some ⟨B, 0, none⟩) n n) n us
  own : ∀ j, j < k → OwnI (B + 1) wr (us.getD j nv) (ws.getD j [])
  dis : ∀ i j, i < j → j < k → ∀ b, (us.getD j nv).ownBlock = some b → (us.getD i nv).ownBlock ≠ some b
theorem SoFar.next {B n k : Nat} {ws : List (List Int)} {us : List Value} {wr w1 : World} {u : Value} (h : SoFar B n ws k us wr) (hk : k < n) (hB : B < wr.heap.size) (hb : Below wr.heap.size wr w1) (ho : OwnI wr.heap.size w1 u (ws.getD k [])) :
    SoFar B n ws (k + 1) (us.set k u) (w1.setCell ⟨B, k, none⟩ u) := by
  have hkl : k < us.length := by rw [h.len]; exact hk
  have hrow := own_later h.row hb
  refine ⟨by simp [h.len], (hrow.stored k u).1, fun j hj => ?_, fun i j hij hj b hb' => ?_⟩
  · rw [set_getD hkl]
    by_cases e : j = k
    · subst e; rw [if_pos rfl]
      exact ownsRow_setCell_below (own_base ho (by omega)) (by simp) _
    · rw [if_neg e]
      exact ownsRow_setCell_below (own_later (h.own j (by omega)) hb) (by simp) _
  · rw [set_getD hkl] at hb' ⊢
    rw [if_neg (by omega)]
    by_cases e : j = k
    · subst e
      rw [if_pos rfl] at hb'
      intro hc
      have h1 := own_lo ho b hb'
      have h2 := own_lt (h.own i (by omega)) b hc
      omega
    · rw [if_neg e] at hb'
      exact h.dis i j hij (by omega) b hb'
theorem SoFar.done {B n : Nat} {ws : List (List Int)} {us : List Value} {wr : World} (h : SoFar B n ws n us wr) (hn : ws.length = n) : OwnSS B wr.heap.size wr (.slice (some ⟨B, 0, none⟩) n n) us ws := by
  subst hn
  exact ⟨h.len, h.row, own_lt h.row, fun k hk => own_base (h.own k hk) (by omega), fun k hk => own_lt (h.own k hk), fun j k hj hk => h.dis j k hj hk, fun k hk b hb hv => by
    have h1 := own_lo (h.own k hk) b hb
    simp [Value.ownBlock] at hv
    omega⟩

set_option maxHeartbeats 1600000 in
theorem toInt64SS_c (v : Value) (ws : List (List Int)) (w : World) (h : RdSS w v ws) (hsz : SzSS ws ≤ 1048576) :
    Calls Tryd.prog 75 #[v] w (RetOwnSS ws w) := by
  obtain ⟨i0, hi, hz0, hz1, hz2⟩ := info_parts info_SS
  obtain ⟨us0, hus, hr, hrow⟩ := h
  have hle := fun k (hk : k ≤ ws.length) => lensK_le ws hk
  unfold SzSS at hsz
  generalize hn : ws.length = n at *
  have HN := Lib.hid hn; clear hn
  obtain ⟨hn, ao, cap, bb, off, rfl, hao, hcell⟩ := hr.open
  clear hr
  have HROW := Lib.hid hrow; clear hrow
  have HLE := Lib.hid hle; clear hle
  go_enter Tryd.func75, Tryd.ntmps75
  go_wp2_with (at_make; refine wpList_make_full _ rfl _ _ 23 rfl w.heap.size 22 i0 (.slice none 0 0) 1 Tryd.underlying23 hi hz0 hz1 _ _ _ _ n rfl rfl (by omega) (by omega) ?b2 ?b3 (Nat.le_refl _) ?_)
  case b2 => rw [hz2]; omega
  case b3 => unfold maxLen; omega
  intro w0 hown0 hg0
  have hb0 : Below w.heap.size w w0 := (Below.refl _ _).grown hg0 (Nat.le_refl _) (fun k h => by cases h)
  go_wp2
  go_loopw [4] (fun i wr => ∃ (k : Nat) (us : List Value), k ≤ n ∧ i = .int .i64 k ∧ SoFar w.heap.size n ws k us wr ∧ Below w.heap.size w wr)
    (fun i _ => n - (intOf i).toNat)
  case atStart => exact ⟨0, _, Nat.zero_le _, rfl, ⟨by simpa using hown0.1, hown0, fun j h => by omega, fun i j _ h => by omega⟩, hb0⟩
  case round =>
    obtain ⟨k, us, hk, rfl, hsf, hb⟩ := hrel
    have hB : w.heap.size < wr.heap.size := own_lt hsf.row _ rfl
    by_cases hlt : k < n
    · have hix := ix (P := Tryd.prog) (T := 23) (cap := cap) Tryd.underlying23 cells_SS has_SS hao (k := k) (by omega) _ rfl
      rw [Nat.mul_one] at hix
      have hc : wr.cell? ⟨bb, off + k, none⟩ = some (us0.getD k nv) := hcell _ hb _ _ (by omega) (getDv (by omega))
      have hrd := HROW.out k hlt
      have hle := HLE.out (k + 1) (by omega)
      rw [lensK] at hle
      have ht := toInt64S_c (us0.getD k nv) (ws.getD k []) wr (hrd.later hb) (by omega)
      have hnx := fun w1 u => hsf.next (w1 := w1) (u := u) hlt hB
      have hrow := hsf.row
      have HT := Lib.hid ht; clear ht
      have HNX := Lib.hid hnx; clear hnx
      have HSF := Lib.hid hsf; clear hsf
      clear hcell hrd hle
      generalize us0.getD k nv = u0 at *
      go_wp2_with (go_at_call 74; refine HT.out.mono ?_; rintro _ w1 ⟨u, rfl, ho, hb1⟩; have hown1 := own_later hrow hb1; have hf0 := hown1.frozenAt k; have hg0 := hown1.cellAt k (by omega); obtain ⟨x0, hx0⟩ : ∃ x, us[k]? = some x := ⟨_, List.getElem?_eq_getElem (by have := hrow.1; omega)⟩; rw [hx0] at hg0; have HOWN1 := Lib.hid hown1; clear hown1; have HO := Lib.hid ho; clear ho; obtain ⟨ao1, cap1, g1, rfl, _, _⟩ := own_open HO.out)
      go_roundw
      case rel => exact ⟨k + 1, _, by omega, by go_num, HNX.out _ _ hb1 HO.out, ((hb.trans (hb1.mono hb.size)).setCell (Nat.le_refl _) _)⟩
      case measure => simp [intOf]; omega
    · obtain rfl : k = n := by omega
      have hd := hsf.done HN.out
      clear hcell
      go_wp2
      go_returns
      exact ⟨_, _, rfl, hd, hb⟩

end Go.Proofs.YtgdadbmhdljcdaaDoor
