/- Several texts of the proofs in one: SS, SS2. -/
import Derived.Test.YtgdadbmhdljcdaaGreatDoorGB
import Derived.Test.YtgdadbmhdljcdaaGreatDoorGC
/- Slices of slices of numbers, and models: read, sized, copied, compared. -/
namespace Go.Proofs.YtgdadbmhdljcdaaGreatDoor
set_option linter.unusedVariables false
open Go.RowKit Go.Proofs.Bell Go.BigFrame

def nv : Value := .slice none 0 0
/-- `v` is a slice of slices that hold these numbers -/
def RdSS (w : World) (v : Value) (ws : List (List Int)) : Prop :=
  ∃ us : List Value, us.length = ws.length ∧ Rd w v ws.length us ∧ ∀ k, k < ws.length → Rd w (us.getD k nv) (ws.getD k []).length (ints (ws.getD k []))
theorem RdSS.later {w w' : World} {v : Value} {ws : List (List Int)} (h : RdSS w v ws) (hb : Below w.heap.size w w') : RdSS w' v ws := by
  obtain ⟨us, h1, h2, h3⟩ := h
  exact ⟨us, h1, h2.later hb, fun k hk => (h3 k hk).later hb⟩
theorem getDv {us : List Value} {k : Nat} (h : k < us.length) : us[k]? = some (us.getD k nv) := by simp [List.getD, h]

theorem cells_SS : Tryz.prog.cellsOf 42 = 1 := by kernel_rfl
theorem has_SS : (Tryz.prog.info? 42).isSome = true := by kernel_rfl
theorem info_SS : (Tryz.prog.info? 42).map (fun i => (i.zero, i.size, i.bytes)) = some (some (.slice none 0 0), 1, 24) := by kernel_rfl

def lensK (ws : List (List Int)) : Nat → Nat
  | 0 => 0
  | k + 1 => lensK ws k + (ws.getD k []).length
theorem lensK_mono (ws : List (List Int)) : ∀ n k, lensK ws k ≤ lensK ws (k + n)
  | 0, k => Nat.le_refl _
  | n + 1, k => by have := lensK_mono ws n k; rw [← Nat.add_assoc, lensK]; omega
theorem lensK_le (ws : List (List Int)) {k n : Nat} (h : k ≤ n) : lensK ws k ≤ lensK ws n := by
  have := lensK_mono ws (n - k) k
  rwa [show k + (n - k) = n by omega] at this
def SzSS (ws : List (List Int)) : Nat := ws.length + lensK ws ws.length

def leftM (left : Int) (zs : List Int) (ws : List (List Int)) (bs : List Int) : Int := leftOf left (zs.length + SzSS ws + bs.length)
theorem leftM_pos {left : Int} {zs : List Int} {ws : List (List Int)} {bs : List Int} (h : (zs.length : Int) + SzSS ws + bs.length ≤ left) : leftM left zs ws bs = left - zs.length - SzSS ws - bs.length := by
  unfold leftM; rw [leftOf_pos (by omega)]; omega
theorem leftM_neg {left : Int} {zs : List Int} {ws : List (List Int)} {bs : List Int} (h : left < (zs.length : Int) + SzSS ws + bs.length) : leftM left zs ws bs = -1 := by
  unfold leftM; rw [leftOf_neg (by omega)]

/-- a slice of slices of one's own: its values are `us`; all blocks lie from `lo` to `hi` -/
structure OwnSS (lo hi : Nat) (w : World) (v : Value) (us : List Value) (ws : List (List Int)) : Prop where
  len : us.length = ws.length
  row : w.ownsRow lo 42 1 v ws.length us
  rowh : ∀ b, v.ownBlock = some b → b < hi
  own : ∀ k, k < ws.length → OwnI lo w (us.getD k nv) (ws.getD k [])
  top : ∀ k, k < ws.length → ∀ b, (us.getD k nv).ownBlock = some b → b < hi
  dis : ∀ j k, j < k → k < ws.length → ∀ b, (us.getD k nv).ownBlock = some b → (us.getD j nv).ownBlock ≠ some b
  cd : ∀ k, k < ws.length → ∀ b, (us.getD k nv).ownBlock = some b → v.ownBlock ≠ some b
theorem OwnSS.rd {lo hi : Nat} {w : World} {v : Value} {us : List Value} {ws : List (List Int)} (h : OwnSS lo hi w v us ws) : RdSS w v ws :=
  ⟨us, h.len, Rd.of_own h.row, fun k hk => Rd.of_own (h.own k hk)⟩
theorem OwnSS.later {lo hi : Nat} {w w' : World} {v : Value} {us : List Value} {ws : List (List Int)} (h : OwnSS lo hi w v us ws) (hb : Below w.heap.size w w') : OwnSS lo hi w' v us ws :=
  ⟨h.len, own_later h.row hb, h.rowh, fun k hk => own_later (h.own k hk) hb, h.top, h.dis, h.cd⟩
theorem OwnSS.only {lo hi : Nat} {S : Nat → Prop} {w w' : World} {v : Value} {us : List Value} {ws : List (List Int)} (h : OwnSS lo hi w v us ws) (ho : Only S w w') (hn : ∀ b, S b → ¬ (lo ≤ b ∧ b < hi)) : OwnSS lo hi w' v us ws :=
  ⟨h.len, own_only h.row ho (fun b hb hS => hn b hS ⟨own_lo h.row b hb, h.rowh b hb⟩), h.rowh, fun k hk => own_only (h.own k hk) ho (fun b hb hS => hn b hS ⟨own_lo (h.own k hk) b hb, h.top k hk b hb⟩), h.top, h.dis, h.cd⟩
theorem OwnSS.wide {lo hi lo' hi' : Nat} {w : World} {v : Value} {us : List Value} {ws : List (List Int)} (h : OwnSS lo hi w v us ws) (h1 : lo' ≤ lo) (h2 : hi ≤ hi') : OwnSS lo' hi' w v us ws :=
  ⟨h.len, own_base h.row h1, fun b hb => Nat.lt_of_lt_of_le (h.rowh b hb) h2, fun k hk => own_base (h.own k hk) h1, fun k hk b hb => Nat.lt_of_lt_of_le (h.top k hk b hb) h2, h.dis, h.cd⟩

def RetOwnSS (ws : List (List Int)) (w : World) (e : Ending) (w' : World) : Prop := ∃ v us, e = .returned v ∧ OwnSS w.heap.size w'.heap.size w' v us ws ∧ Below w.heap.size w w'

theorem set_getD {us : List Value} {k j : Nat} {u : Value} (hk : k < us.length) : (us.set k u).getD j nv = if j = k then u else us.getD j nv := by
  by_cases h : j = k
  · subst h; simp [List.getD, hk]
  · rw [if_neg h]; simp [List.getD, List.getElem?_set_ne (Ne.symm h)]

/-- what the copy has so far -/
structure SoFar (B n : Nat) (ws : List (List Int)) (k : Nat) (us : List Value) (wr : World) : Prop where
  len : us.length = n
  row : wr.ownsRow B 42 1 (.slice (some ⟨B, 0, none⟩) n n) n us
  own : ∀ j, j < k → OwnI (B + 1) wr (us.getD j nv) (ws.getD j [])
  dis : ∀ i j, i < j → j < k → ∀ b, (us.getD j nv).ownBlock = some b → (us.getD i nv).ownBlock ≠ some b
theorem SoFar.next {B n k : Nat} {ws : List (List Int)} {us : List Value} {wr w1 : World} {u : Value} (h : SoFar B n ws k us wr) (hk : k < n) (hB : B < wr.heap.size) (hb : Below wr.heap.size wr w1) (ho : OwnI wr.heap.size w1 u (ws.getD k [])) :
    SoFar B n ws (k + 1) (us.set k u) (w1.setCell ⟨B, k, none⟩ u) := by
  have hkl : k < us.length := by rw [h.len]; exact hk
  have hrow := own_later h.row hb
  refine ⟨by simp [h.len], (hrow.stored k u).1, fun j hj => ?_, fun i j hij hj b hb' => ?_⟩
  · rw [set_getD hkl]
    by_cases e : j = k
    · subst e; rw [if_pos rfl]
      exact ownsRow_setCell_below (own_base ho (by omega)) (by simp) _
    · rw [if_neg e]
      exact ownsRow_setCell_below (own_later (h.own j (by omega)) hb) (by simp) _
  · rw [set_getD hkl] at hb' ⊢
    rw [if_neg (by omega)]
    by_cases e : j = k
    · subst e
      rw [if_pos rfl] at hb'
      intro hc
      have h1 := own_lo ho b hb'
      have h2 := own_lt (h.own i (by omega)) b hc
      omega
    · rw [if_neg e] at hb'
      exact h.dis i j hij (by omega) b hb'
theorem SoFar.done {B n : Nat} {ws : List (List Int)} {us : List Value} {wr : World} (h : SoFar B n ws n us wr) (hn : ws.length = n) : OwnSS B wr.heap.size wr (.slice (some ⟨B, 0, none⟩) n n) us ws := by
  subst hn
  exact ⟨h.len, h.row, own_lt h.row, fun k hk => own_base (h.own k hk) (by omega), fun k hk => own_lt (h.own k hk), fun j k hj hk => h.dis j k hj hk, fun k hk b hb hv => by
    have h1 := own_lo (h.own k hk) b hb
    simp [Value.ownBlock] at hv
    omega⟩

end Go.Proofs.YtgdadbmhdljcdaaGreatDoor

/- Models: copied, compared. -/
namespace Go.Proofs.YtgdadbmhdljcdaaGreatDoor
set_option linter.unusedVariables false
open Go.RowKit Go.Proofs.Bell Go.BigFrame

def eqWs (xs ys : List (List Int)) : Bool := decide (xs = ys)
theorem eqWs_refl (xs : List (List Int)) : eqWs xs xs = true := decide_eq_true rfl
theorem getDw {ws : List (List Int)} {k : Nat} (h : k < ws.length) : ws.getD k [] = ws[k] := by simp [List.getD, h]

/-- a model of one's own, whose blocks lie from `lo` to `hi` -/
structure OwnM (lo hi : Nat) (w : World) (zv wv bv : Value) (us : List Value) (zs : List Int) (ws : List (List Int)) (bs : List Int) : Prop where
  z : OwnI lo w zv zs
  zh : ∀ b, zv.ownBlock = some b → b < hi
  s : OwnSS lo hi w wv us ws
  b : OwnI lo w bv bs
  bh : ∀ b, bv.ownBlock = some b → b < hi
  zb : ∀ b, zv.ownBlock = some b → bv.ownBlock ≠ some b
  zc : ∀ b, zv.ownBlock = some b → wv.ownBlock ≠ some b
  zu : ∀ k, k < ws.length → ∀ b, (us.getD k nv).ownBlock = some b → zv.ownBlock ≠ some b
  bu : ∀ k, k < ws.length → ∀ b, (us.getD k nv).ownBlock = some b → bv.ownBlock ≠ some b
  bc : ∀ b, bv.ownBlock = some b → wv.ownBlock ≠ some b
theorem OwnM.later {lo hi : Nat} {w w' : World} {zv wv bv : Value} {us : List Value} {zs : List Int} {ws : List (List Int)} {bs : List Int} (h : OwnM lo hi w zv wv bv us zs ws bs) (hb : Below w.heap.size w w') : OwnM lo hi w' zv wv bv us zs ws bs :=
  ⟨own_later h.z hb, h.zh, h.s.later hb, own_later h.b hb, h.bh, h.zb, h.zc, h.zu, h.bu, h.bc⟩
theorem OwnM.only {lo hi : Nat} {S : Nat → Prop} {w w' : World} {zv wv bv : Value} {us : List Value} {zs : List Int} {ws : List (List Int)} {bs : List Int} (h : OwnM lo hi w zv wv bv us zs ws bs) (ho : Only S w w') (hn : ∀ b, S b → ¬ (lo ≤ b ∧ b < hi)) : OwnM lo hi w' zv wv bv us zs ws bs :=
  ⟨own_only h.z ho (fun b hb hS => hn b hS ⟨own_lo h.z b hb, h.zh b hb⟩), h.zh, h.s.only ho hn, own_only h.b ho (fun b hb hS => hn b hS ⟨own_lo h.b b hb, h.bh b hb⟩), h.bh, h.zb, h.zc, h.zu, h.bu, h.bc⟩
def RetOwnM (zs : List Int) (ws : List (List Int)) (bs : List Int) (w : World) (e : Ending) (w' : World) : Prop :=
  ∃ zv wv bv us, e = .returned (.agg #[zv, wv, bv]) ∧ OwnM w.heap.size w'.heap.size w' zv wv bv us zs ws bs ∧ Below w.heap.size w w'

theorem OwnSS.set {lo hi : Nat} {w : World} {v : Value} {us : List Value} {ws : List (List Int)} (h : OwnSS lo hi w v us ws) {a : Addr} (ha : a.block < lo) (u : Value) : OwnSS lo hi (w.setCell a u) v us ws :=
  ⟨h.len, ownsRow_setCell_below h.row ha u, h.rowh, fun k hk => ownsRow_setCell_below (h.own k hk) ha u, h.top, h.dis, h.cd⟩
theorem OwnM.of3 {l0 l1 l2 l3 hi : Nat} {w : World} {zv wv bv : Value} {us : List Value} {zs : List Int} {ws : List (List Int)} {bs : List Int} (hz : OwnI l1 w zv zs) (hzh : ∀ b, zv.ownBlock = some b → b < l2) (hs : OwnSS l2 l3 w wv us ws) (hb : OwnI l3 w bv bs)
    (hbh : ∀ b, bv.ownBlock = some b → b < hi) (h0 : l0 ≤ l1) (h1 : l1 ≤ l2) (h2 : l2 ≤ l3) (h3 : l3 ≤ hi) : OwnM l0 hi w zv wv bv us zs ws bs :=
  ⟨own_base hz h0, fun b h => by have := hzh b h; omega, hs.wide (by omega) h3, own_base hb (by omega), hbh,
   fun b h h' => by have := hzh b h; have := own_lo hb b h'; omega,
   fun b h h' => by have := hzh b h; have := own_lo hs.row b h'; omega,
   fun k hk b h h' => by have := own_lo (hs.own k hk) b h; have := hzh b h'; omega,
   fun k hk b h h' => by have := hs.top k hk b h; have := own_lo hb b h'; omega,
   fun b h h' => by have := own_lo hb b h; have := hs.rowh b h'; omega⟩

theorem OwnM.set {lo hi : Nat} {w : World} {zv wv bv : Value} {us : List Value} {zs : List Int} {ws : List (List Int)} {bs : List Int} (h : OwnM lo hi w zv wv bv us zs ws bs) {a : Addr} (ha : a.block < lo) (u : Value) : OwnM lo hi (w.setCell a u) zv wv bv us zs ws bs :=
  ⟨ownsRow_setCell_below h.z ha u, h.zh, h.s.set ha u, ownsRow_setCell_below h.b ha u, h.bh, h.zb, h.zc, h.zu, h.bu, h.bc⟩
theorem OwnM.wide {lo hi lo' hi' : Nat} {w : World} {zv wv bv : Value} {us : List Value} {zs : List Int} {ws : List (List Int)} {bs : List Int} (h : OwnM lo hi w zv wv bv us zs ws bs) (h1 : lo' ≤ lo) (h2 : hi ≤ hi') : OwnM lo' hi' w zv wv bv us zs ws bs :=
  ⟨own_base h.z h1, fun b hb => Nat.lt_of_lt_of_le (h.zh b hb) h2, h.s.wide h1 h2, own_base h.b h1, fun b hb => Nat.lt_of_lt_of_le (h.bh b hb) h2, h.zb, h.zc, h.zu, h.bu, h.bc⟩

end Go.Proofs.YtgdadbmhdljcdaaGreatDoor

