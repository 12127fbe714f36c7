/- Models: copied, compared. -/
import Derived.Test.YtgdadbmhdljcdaaGreatDoorGB
import Derived.Test.YtgdadbmhdljcdaaGreatDoorSS
namespace Go.Proofs.YtgdadbmhdljcdaaGreatDoor
set_option linter.unusedVariables false
open Go.RowKit Go.Proofs.Bell Go.BigFrame

def eqWs (xs ys : List (List Int)) : Bool := decide (xs = ys)
theorem eqWs_refl (xs : List (List Int)) : eqWs xs xs = true := decide_eq_true rfl
theorem getDw {ws : List (List Int)} {k : Nat} (h : k < ws.length) : ws.getD k [] = ws[k] := by simp [List.getD, h]

/-- a model of one's own, whose blocks lie from `lo` to `hi` -/
structure OwnM (lo hi : Nat) (w : World) (zv wv bv : Value) (us : List Value) (zs : List Int) (ws : List (List Int)) (bs : List Int) : Prop where
  z : OwnI lo w zv zs
  zh : ∀ b, zv.ownBlock = some b → b < hi
  s : OwnSS lo hi w wv us ws
  b : OwnI lo w bv bs
  bh : ∀ b, bv.ownBlock = some b → b < hi
  zb : ∀ b, zv.ownBlock = some b → bv.ownBlock ≠ some b
  zc : ∀ b, zv.ownBlock = some b → wv.ownBlock ≠ some b
  zu : ∀ k, k < ws.length → ∀ b, (us.getD k nv).ownBlock = some b → zv.ownBlock ≠ some b
  bu : ∀ k, k < ws.length → ∀ b, (us.getD k nv).ownBlock = some b → bv.ownBlock ≠ some b
  bc : ∀ b, bv.ownBlock = some b → wv.ownBlock ≠ some b
theorem OwnM.later {lo hi : Nat} {w w' : World} {zv wv bv : Value} {us : List Value} {zs : List Int} {ws : List (List Int)} {bs : List Int} (h : OwnM lo hi w zv wv bv us zs ws bs) (hb : Below w.heap.size w w') : OwnM lo hi w' zv wv bv us zs ws bs :=
  ⟨own_later h.z hb, h.zh, h.s.later hb, own_later h.b hb, h.bh, h.zb, h.zc, h.zu, h.bu, h.bc⟩
theorem OwnM.only {lo hi : Nat} {S : Nat → Prop} {w w' : World} {zv wv bv : Value} {us : List Value} {zs : List Int} {ws : List (List Int)} {bs : List Int} (h : OwnM lo hi w zv wv bv us zs ws bs) (ho : Only S w w') (hn : ∀ b, S b → ¬ (lo ≤ b ∧ b < hi)) : OwnM lo hi w' zv wv bv us zs ws bs :=
  ⟨own_only h.z ho (fun b hb hS => hn b hS ⟨own_lo h.z b hb, h.zh b hb⟩), h.zh, h.s.only ho hn, own_only h.b ho (fun b hb hS => hn b hS ⟨own_lo h.b b hb, h.bh b hb⟩), h.bh, h.zb, h.zc, h.zu, h.bu, h.bc⟩
def RetOwnM (zs : List Int) (ws : List (List Int)) (bs : List Int) (w : World) (e : Ending) (w' : World) : Prop :=
  ∃ zv wv bv us, e = .returned (.agg #[zv, wv, bv]) ∧ OwnM w.heap.size w'.heap.size w' zv wv bv us zs ws bs ∧ Below w.heap.size w w'

theorem OwnSS.set {lo hi : Nat} {w : World} {v : Value} {us : List Value} {ws : List (List Int)} (h : OwnSS lo hi w v us ws) {a : Addr} (ha : a.block < lo) (u : Value) : OwnSS lo hi (w.setCell a u) v us ws :=
  ⟨h.len, ownsRow_setCell_below h.row ha u, h.rowh, fun k hk => ownsRow_setCell_below (h.own k hk) ha u, h.top, h.dis, h.cd⟩
theorem OwnM.of3 {l0 l1 l2 l3 hi : Nat} {w : World} {zv wv bv : Value} {us : List Value} {zs : List Int} {ws : List (List Int)} {bs : List Int} (hz : OwnI l1 w zv zs) (hzh : ∀ b, zv.ownBlock = some b → b < l2) (hs : OwnSS l2 l3 w wv us ws) (hb : OwnI l3 w bv bs)
    (hbh : ∀ b, bv.ownBlock = some b → b < hi) (h0 : l0 ≤ l1) (h1 : l1 ≤ l2) (h2 : l2 ≤ l3) (h3 : l3 ≤ hi) : OwnM l0 hi w zv wv bv us zs ws bs :=
  ⟨own_base hz h0, fun b h => by have := hzh b h; omega, hs.wide (by omega) h3, own_base hb (by omega), hbh,
   fun b h h' => by have := hzh b h; have := own_lo hb b h'; omega,
   fun b h h' => by have := hzh b h; have := own_lo hs.row b h'; omega,
   fun k hk b h h' => by have := own_lo (hs.own k hk) b h; have := hzh b h'; omega,
   fun k hk b h h' => by have := hs.top k hk b h; have := own_lo hb b h'; omega,
   fun b h h' => by have := own_lo hb b h; have := hs.rowh b h'; omega⟩

theorem OwnM.set {lo hi : Nat} {w : World} {zv wv bv : Value} {us : List Value} {zs : List Int} {ws : List (List Int)} {bs : List Int} (h : OwnM lo hi w zv wv bv us zs ws bs) {a : Addr} (ha : a.block < lo) (u : Value) : OwnM lo hi (w.setCell a u) zv wv bv us zs ws bs :=
  ⟨ownsRow_setCell_below h.z ha u, h.zh, h.s.set ha u, ownsRow_setCell_below h.b ha u, h.bh, h.zb, h.zc, h.zu, h.bu, h.bc⟩
theorem OwnM.wide {lo hi lo' hi' : Nat} {w : World} {zv wv bv : Value} {us : List Value} {zs : List Int} {ws : List (List Int)} {bs : List Int} (h : OwnM lo hi w zv wv bv us zs ws bs) (h1 : lo' ≤ lo) (h2 : hi ≤ hi') : OwnM lo' hi' w zv wv bv us zs ws bs :=
  ⟨own_base h.z h1, fun b hb => Nat.lt_of_lt_of_le (h.zh b hb) h2, h.s.wide h1 h2, own_base h.b h1, fun b hb => Nat.lt_of_lt_of_le (h.bh b hb) h2, h.zb, h.zc, h.zu, h.bu, h.bc⟩

end Go.Proofs.YtgdadbmhdljcdaaGreatDoor
