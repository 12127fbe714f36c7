/- Memory: a world behind another one; slices that can be read; slices of one's own. No function of the program. -/
import Derived.Test.YtddkjcdnomoglaaBase
import Derived.Handy
import Derived.Lib.Strings
namespace Go.Proofs.Bell
set_option linter.unusedVariables false
open Go.RowKit

/-- a world behind `w`: what was there reads as before -/
structure Lat (w : World) where
  world : World
  below : Below w.heap.size w world

instance Lat.nonempty (w : World) : Nonempty (Lat w) := ⟨⟨w, Below.refl _ _⟩⟩

/-- a region that draws its order, whose operations only read, and whose callees leave alone what was there -/
theorem wp_region_lat {P : Program} {id : Nat} {Q : Exit → Act → World → Prop} {a : Act} {w : World} {l : List Oper} (hm : P.follows .mixedOrders = true) (hB : Region.lexB .any l.toArray = true)
    (h : wpQuiet P l.toArray (fun w' => ∃ s : Lat w, w' = s.world) (fun a' => ∀ w', (∃ s : Lat w, w' = s.world) → Q .normal a' w') l a) : (Code.region id l.toArray true).wp P Q a w :=
  wp_region_quiet (C := fun w' => ∃ s : Lat w, w' = s.world) hm hB ⟨⟨w.drew, (Below.refl _ _).drew⟩, rfl⟩ (by simpa using h)

theorem Lat.callB {P : Program} {f : FuncId} {args : Array Value} {w : World} {s : Lat w} {v : Value} (h : Calls P f args s.world (RetB v s.world)) :
    Calls P f args s.world fun e w'' => e = .returned v ∧ ∃ s' : Lat w, w'' = s'.world :=
  h.mono fun _ w' h => ⟨h.1, ⟨w', s.below.trans (h.2.mono s.below.size)⟩, rfl⟩
theorem RetD.toB {v : Value} {w : World} {e : Ending} {w' : World} (h : RetD v w e w') : RetB v w e w' := by
  obtain ⟨h1, n, h2⟩ := h
  exact ⟨h1, h2 ▸ below_drewN (Below.refl _ _) n⟩
theorem RetS.toD {v : Value} {w : World} {e : Ending} {w' : World} (h : RetS v w e w') : RetD v w e w' := ⟨h.1, 0, h.2.symm⟩
theorem Lat.callD {P : Program} {f : FuncId} {args : Array Value} {w : World} {s : Lat w} {v : Value} (h : Calls P f args s.world (RetD v s.world)) :
    Calls P f args s.world fun e w'' => e = .returned v ∧ ∃ s' : Lat w, w'' = s'.world := Lat.callB (h.mono fun _ _ h => h.toB)
theorem Lat.callS {P : Program} {f : FuncId} {args : Array Value} {w : World} {s : Lat w} {v : Value} (h : Calls P f args s.world (RetS v s.world)) :
    Calls P f args s.world fun e w'' => e = .returned v ∧ ∃ s' : Lat w, w'' = s'.world := Lat.callD (h.mono fun _ _ h => h.toD)

theorem bcell {W w1 : World} (hb : Below W.heap.size W w1) : (∀ b o, b < W.heap.size → w1.cell? ⟨b, o, none⟩ = W.cell? ⟨b, o, none⟩) ∧ (∀ b o, b < W.heap.size → w1.frozen? ⟨b, o, none⟩ = W.frozen? ⟨b, o, none⟩) :=
  ⟨fun b o h => hb.cell (p := ⟨b, o, none⟩) h, fun b o h => hb.frozen (p := ⟨b, o, none⟩) h⟩

/-- `v` is a slice of `n` elements whose cells, from its head on, are `xs` -/
def Rd (w : World) (v : Value) (n : Nat) (xs : List Value) : Prop :=
  n ≤ maxLen ∧ ((n = 0 ∧ xs = [] ∧ ∃ ao cap, v = .slice ao 0 cap ∧ (ao = none → cap = 0) ∧ cap ≤ maxLen) ∨
   (0 < n ∧ ∃ b off cap, v = .slice (some ⟨b, off, none⟩) n cap ∧ n ≤ cap ∧ cap ≤ maxLen ∧ b < w.heap.size ∧ ∀ j u, xs[j]? = some u → w.cell? ⟨b, off + j, none⟩ = some u))

theorem Rd.later {w w' : World} {v : Value} {n : Nat} {xs : List Value} (h : Rd w v n xs) (hb : Below w.heap.size w w') : Rd w' v n xs := by
  obtain ⟨h0, h⟩ := h
  refine ⟨h0, ?_⟩
  rcases h with h | ⟨h1, b, off, cap, h2, h3, h4, h5, h6⟩
  · exact .inl h
  · exact .inr ⟨h1, b, off, cap, h2, h3, h4, Nat.lt_of_lt_of_le h5 hb.size, fun j u hj => (hb.cell (p := ⟨b, off + j, none⟩) h5).trans (h6 j u hj)⟩

/-- what is owned can be read -/
theorem Rd.of_own {w : World} {base : Nat} {e : TypeId} {size : Nat} {v : Value} {n : Nat} {xs : List Value} (h : w.ownsRow base e size v n xs) : Rd w v n xs := by
  have h0 := h
  obtain ⟨hl, hc⟩ := h
  rcases hc with ⟨rfl, rfl⟩ | ⟨g, cap, cur, rfl, hg, hh, hn, hcap, hsz, htake⟩
  · exact ⟨Nat.zero_le _, .inl ⟨rfl, List.eq_nil_of_length_eq_zero (by simpa using hl), none, 0, rfl, fun _ => rfl, Nat.zero_le _⟩⟩
  · rcases Nat.eq_zero_or_pos n with rfl | hp
    · exact ⟨Nat.zero_le _, .inl ⟨rfl, List.eq_nil_of_length_eq_zero (by simpa using hl), _, cap, rfl, (fun h => by cases h), hcap⟩⟩
    · refine ⟨by omega, .inr ⟨hp, g, 0, cap, rfl, hn, hcap, (Array.getElem?_eq_some_iff.1 hh).1, fun j u hj => ?_⟩⟩
      have hj' := (List.getElem?_eq_some_iff.1 hj).1
      rw [Nat.zero_add, h0.cellAt j (by omega), hj]

/-- the two shapes of a slice that can be read -/
theorem Rd.shape {w : World} {v : Value} {n : Nat} {xs : List Value} (h : Rd w v n xs) :
    n ≤ 9223372036854775807 ∧ ((n = 0 ∧ xs = [] ∧ ∃ ao cap, v = .slice ao 0 cap) ∨
      (0 < n ∧ ∃ b off cap, v = .slice (some ⟨b, off, none⟩) n cap ∧ n ≤ cap ∧ cap ≤ 9223372036854775807 ∧ b < w.heap.size ∧ ∀ w', Below w.heap.size w w' → ∀ j u, xs[j]? = some u → w'.cell? ⟨b, off + j, none⟩ = some u)) := by
  obtain ⟨h0, h⟩ := h
  unfold maxLen at *
  refine ⟨h0, ?_⟩
  rcases h with ⟨h1, h2, ao, cap, h3, _, _⟩ | ⟨h1, b, off, cap, h2, h3, h4, h5, h6⟩
  · exact .inl ⟨h1, h2, ao, cap, h3⟩
  · exact .inr ⟨h1, b, off, cap, h2, h3, h4, h5, fun w' hb j u hj => (hb.cell (p := ⟨b, off + j, none⟩) h5).trans (h6 j u hj)⟩

/-- the cells of pairs, of triples -/
def ints (zs : List Int) : List Value := zs.map (.int .i64)
def pairs (ps : List (Int × Int)) : List Value := ps.flatMap fun p => [.int .i64 p.1, .int .i64 p.2]
def trips (ps : List (Int × Int × Int)) : List Value := ps.flatMap fun p => [.int .i64 p.1, .int .i64 p.2.1, .int .i64 p.2.2]

theorem ints_len (zs : List Int) : (ints zs).length = zs.length := by simp [ints]
theorem pairs_len (ps : List (Int × Int)) : (pairs ps).length = ps.length * 2 := by induction ps with
  | nil => rfl
  | cons p ps ih => have : pairs (p :: ps) = [.int .i64 p.1, .int .i64 p.2] ++ pairs ps := rfl
                    rw [this, List.length_append, ih]; simp; omega
theorem trips_len (ps : List (Int × Int × Int)) : (trips ps).length = ps.length * 3 := by induction ps with
  | nil => rfl
  | cons p ps ih => have : trips (p :: ps) = [.int .i64 p.1, .int .i64 p.2.1, .int .i64 p.2.2] ++ trips ps := rfl
                    rw [this, List.length_append, ih]; simp; omega

theorem intsAt {zs : List Int} {k : Nat} (h : k < zs.length) : (ints zs)[k]? = some (.int .i64 zs[k]) := by simp [ints, h]
theorem pairs_at {ps : List (Int × Int)} : ∀ {k : Nat} (h : k < ps.length), (pairs ps)[k * 2]? = some (.int .i64 ps[k].1) ∧ (pairs ps)[k * 2 + 1]? = some (.int .i64 ps[k].2) := by
  induction ps with
  | nil => intro k h; simp at h
  | cons p ps ih =>
    intro k h
    cases k with
    | zero => simp [pairs]
    | succ k =>
      have := ih (k := k) (by simpa using h)
      have e1 : (k + 1) * 2 = k * 2 + 1 + 1 := by omega
      simpa [pairs, e1] using this
theorem trips_at {ps : List (Int × Int × Int)} : ∀ {k : Nat} (h : k < ps.length), (trips ps)[k * 3]? = some (.int .i64 ps[k].1) ∧ (trips ps)[k * 3 + 1]? = some (.int .i64 ps[k].2.1) ∧ (trips ps)[k * 3 + 2]? = some (.int .i64 ps[k].2.2) := by
  induction ps with
  | nil => intro k h; simp at h
  | cons p ps ih =>
    intro k h
    cases k with
    | zero => simp [trips]
    | succ k =>
      have := ih (k := k) (by simpa using h)
      have e1 : (k + 1) * 3 = k * 3 + 1 + 1 + 1 := by omega
      simpa [trips, e1] using this

/-- an index into a slice whose head is known where it has elements -/
theorem ix {P : Program} {T E : TypeId} {sz n cap b off k : Nat} {ao : Option Addr} (hT : P.underlying T = some (.slice E)) (hz : P.cellsOf E = sz) (hi : (P.info? E).isSome = true)
    (hao : 0 < n → ao = some ⟨b, off, none⟩) (hk : k < n) (i : Int) (hik : i = k) : ∀ w, (Instr.indexAt T (.slice ao n cap) (.int .i64 i)).run P w = .ok (.pointer (some ⟨b, off + k * sz, none⟩)) w := by
  intro w
  obtain ⟨inf, hinf⟩ := Option.isSome_iff_exists.1 hi
  have e1 : P.elem T = E := by simp [Program.elem, hT]
  have e2 : inf.size = sz := by rw [← hz]; simp [Program.cellsOf, hinf]
  rw [hao (by omega), hik, run_indexAt_slice w T ⟨b, off, none⟩ n cap .i64 k (by rw [e1]; exact hT), if_pos (by omega)]
  simp [e1, sizeOf, typeInfo, hinf, e2, Addr.add]

/-- a slice that can be read: its head, its length, its cells in every later world -/
theorem Rd.open {w : World} {v : Value} {n : Nat} {xs : List Value} (h : Rd w v n xs) :
    n ≤ 9223372036854775807 ∧ ∃ ao cap b off, v = .slice ao n cap ∧ (0 < n → ao = some ⟨b, off, none⟩) ∧ ∀ w', Below w.heap.size w w' → ∀ j u, 0 < n → xs[j]? = some u → w'.cell? ⟨b, off + j, none⟩ = some u := by
  obtain ⟨h0, h⟩ := h.shape
  refine ⟨h0, ?_⟩
  rcases h with ⟨h1, h2, ao, cap, h3⟩ | ⟨h1, b, off, cap, h2, h3, h4, h5, h6⟩
  · subst h1; exact ⟨ao, cap, 0, 0, h3, fun h => by omega, fun _ _ _ _ h => by omega⟩
  · exact ⟨_, cap, b, off, h2, fun _ => rfl, fun w' hb j u _ hj => h6 w' hb j u hj⟩

theorem own_later {w w' : World} {base : Nat} {e : TypeId} {size : Nat} {v : Value} {n : Nat} {xs : List Value} (h : w.ownsRow base e size v n xs) (hb : Below w.heap.size w w') : w'.ownsRow base e size v n xs := by
  obtain ⟨hl, hc⟩ := h
  refine ⟨hl, ?_⟩
  rcases hc with hc | ⟨g, cap, cur, hv, hg, hh, r⟩
  · exact .inl hc
  · exact .inr ⟨g, cap, cur, hv, hg, by rw [hb.block g (Array.getElem?_eq_some_iff.1 hh).1]; exact hh, r⟩

/-- after the cells at k*2, k*2+1 have been set, one pair more is there -/
theorem set2_upto {xs ys : List Value} {k : Nat} {u v : Value} (hx : ∀ j, j < k * 2 → xs[j]? = ys[j]?) (hl : k * 2 + 1 < xs.length) (h1 : ys[k * 2]? = some u) (h2 : ys[k * 2 + 1]? = some v) :
    ∀ j, j < (k + 1) * 2 → ((xs.set (k * 2) u).set (k * 2 + 1) v)[j]? = ys[j]? := by
  intro j hj
  rcases Nat.lt_or_ge j (k * 2) with h | h
  · rw [List.getElem?_set_ne (by omega), List.getElem?_set_ne (by omega), hx j h]
  · rcases (show j = k * 2 ∨ j = k * 2 + 1 by omega) with rfl | rfl
    · rw [List.getElem?_set_ne (by omega), List.getElem?_set_self (by omega), h1]
    · rw [List.getElem?_set_self (by simpa using hl), h2]
theorem set3_upto {xs ys : List Value} {k : Nat} {u v z : Value} (hx : ∀ j, j < k * 3 → xs[j]? = ys[j]?) (hl : k * 3 + 2 < xs.length) (h1 : ys[k * 3]? = some u) (h2 : ys[k * 3 + 1]? = some v) (h3 : ys[k * 3 + 2]? = some z) :
    ∀ j, j < (k + 1) * 3 → (((xs.set (k * 3) u).set (k * 3 + 1) v).set (k * 3 + 2) z)[j]? = ys[j]? := by
  intro j hj
  rcases Nat.lt_or_ge j (k * 3) with h | h
  · rw [List.getElem?_set_ne (by omega), List.getElem?_set_ne (by omega), List.getElem?_set_ne (by omega), hx j h]
  · rcases (show j = k * 3 ∨ j = k * 3 + 1 ∨ j = k * 3 + 2 by omega) with rfl | rfl | rfl
    · rw [List.getElem?_set_ne (by omega), List.getElem?_set_ne (by omega), List.getElem?_set_self (by omega), h1]
    · rw [List.getElem?_set_ne (by omega), List.getElem?_set_self (by simp; omega), h2]
    · rw [List.getElem?_set_self (by simpa using hl), h3]
theorem set1_upto {xs ys : List Value} {k : Nat} {u : Value} (hx : ∀ j, j < k → xs[j]? = ys[j]?) (hl : k < xs.length) (h1 : ys[k]? = some u) :
    ∀ j, j < k + 1 → (xs.set k u)[j]? = ys[j]? := by
  intro j hj
  rcases Nat.lt_or_ge j k with h | h
  · rw [List.getElem?_set_ne (by omega), hx j h]
  · obtain rfl : j = k := by omega
    rw [List.getElem?_set_self hl, h1]
theorem upto_all {xs ys : List Value} (hl : xs.length = ys.length) (h : ∀ j, j < ys.length → xs[j]? = ys[j]?) : xs = ys := by
  apply List.ext_getElem?
  intro j
  rcases Nat.lt_or_ge j ys.length with h' | h'
  · exact h j h'
  · rw [List.getElem?_eq_none (by omega), List.getElem?_eq_none h']

/-- a function that has a body is entered -/
theorem enters {P : Program} {f : FuncId} {fn : Func} (hf : P.funcs[f]? = some fn) (hname : (fn.name == "runtime.NumGoroutine") = false) (hb : fn.body.isNone = false) :
    ∀ (args : Array Value) (w : World), (callFunc f args).run P w = .ok (.enter f args) w := by
  intro args w
  have h1 : fn.name ≠ "runtime.NumGoroutine" := by simpa using hname
  obtain ⟨c, hc⟩ : ∃ c, fn.body = some c := by
    cases h : fn.body with
    | none => rw [h] at hb; cases hb
    | some c => exact ⟨c, rfl⟩
  simp [callFunc, hf, h1, hc]

/-- a cell of the call's own, in a later world -/
theorem below_cell {w w' : World} (hb : Below w.heap.size w w') {p : Addr} {v : Value} (h : w.cell? p = some v) : w'.cell? p = some v :=
  (hb.cell (World.block_lt_of_cell? w p h)).trans h
theorem Lat.cell {w : World} (s : Lat w) {p : Addr} {v : Value} (h : w.cell? p = some v) : s.world.cell? p = some v := below_cell s.below h

/-- only blocks of `S` may have changed -/
structure Only (S : Nat → Prop) (w w' : World) : Prop where
  os : w'.os = w.os
  tape : w'.tape = w.tape
  output : w'.output = w.output
  size : w.heap.size ≤ w'.heap.size
  block : ∀ k, k < w.heap.size → ¬ S k → w'.heap[k]? = w.heap[k]?
theorem Only.refl (S : Nat → Prop) (w : World) : Only S w w := ⟨rfl, rfl, rfl, Nat.le_refl _, fun _ _ _ => rfl⟩
theorem Only.trans {S : Nat → Prop} {a b c : World} (h : Only S a b) (k : Only S b c) : Only S a c :=
  ⟨k.os.trans h.os, k.tape.trans h.tape, k.output.trans h.output, Nat.le_trans h.size k.size, fun i hi hs => (k.block i (Nat.lt_of_lt_of_le hi h.size) hs).trans (h.block i hi hs)⟩
theorem Only.mono {S S' : Nat → Prop} {w w' : World} (h : Only S w w') (hs : ∀ k, S k → S' k) : Only S' w w' := ⟨h.os, h.tape, h.output, h.size, fun k hk hn => h.block k hk (fun h => hn (hs k h))⟩
theorem Only.of_below {S : Nat → Prop} {w w' : World} (h : Below w.heap.size w w') : Only S w w' := ⟨h.os, h.tape, h.output, h.size, fun k hk _ => h.block k hk⟩
theorem Only.setCell {S : Nat → Prop} {a w : World} (h : Only S a w) {p : Addr} (hp : S p.block) (u : Value) : Only S a (w.setCell p u) :=
  h.trans ⟨rfl, rfl, rfl, by simp [World.setCell], fun k _ hk => Below.heap_setCell _ _ _ _ (fun e => hk (e ▸ hp))⟩
theorem Only.below {S : Nat → Prop} {B : Nat} {a w w' : World} (h : Below B a w) (k : Only S w w') (hB : B ≤ w.heap.size) (hs : ∀ b, S b → B ≤ b) : Below B a w' :=
  ⟨k.os.trans h.os, k.tape.trans h.tape, k.output.trans h.output, Nat.le_trans h.size k.size, fun i hi => (k.block i (Nat.lt_of_lt_of_le hi hB) (fun e => by have := hs i e; omega)).trans (h.block i hi)⟩
theorem own_only {S : Nat → Prop} {w w' : World} {base : Nat} {e : TypeId} {size : Nat} {v : Value} {n : Nat} {xs : List Value} (h : w.ownsRow base e size v n xs) (ho : Only S w w') (hne : ∀ k, v.ownBlock = some k → ¬ S k) : w'.ownsRow base e size v n xs := by
  obtain ⟨hl, hc⟩ := h
  refine ⟨hl, ?_⟩
  rcases hc with hc | ⟨g, cap, cur, hv, hg, hh, r⟩
  · exact .inl hc
  · exact .inr ⟨g, cap, cur, hv, hg, by rw [ho.block g (Array.getElem?_eq_some_iff.1 hh).1 (hne g (by rw [hv]; rfl))]; exact hh, r⟩
theorem cell_only {S : Nat → Prop} {w w' : World} (ho : Only S w w') {p : Addr} {v : Value} (h : w.cell? p = some v) (hn : ¬ S p.block) : w'.cell? p = some v :=
  (World.cell?_of_block (ho.block p.block (World.block_lt_of_cell? w p h) hn)).trans h
theorem rd_only {S : Nat → Prop} {w w' : World} {v : Value} {n : Nat} {xs : List Value} (h : Rd w v n xs) (ho : Only S w w') (hne : ∀ k, S k → w.heap.size ≤ k) : Rd w' v n xs :=
  h.later (Only.below (Below.refl _ _) ho (Nat.le_refl _) hne)

/-- a row of one's own: its head, its cells, what a store makes of it -/
theorem own_open {w : World} {base : Nat} {e : TypeId} {size : Nat} {v : Value} {n : Nat} {xs : List Value} (h : w.ownsRow base e size v n xs) :
    ∃ ao cap g, v = .slice ao n cap ∧ (0 < n → ao = some ⟨g, 0, none⟩) ∧ (0 < n → v.ownBlock = some g) := by
  rcases h.2 with ⟨rfl, rfl⟩ | ⟨g, cap, cur, rfl, _⟩
  · exact ⟨none, 0, 0, rfl, fun h => by omega, fun h => by omega⟩
  · exact ⟨_, cap, g, rfl, fun _ => rfl, fun _ => rfl⟩
theorem own_cell {w : World} {base : Nat} {e : TypeId} {size : Nat} {ao : Option Addr} {n cap g : Nat} {xs : List Value} (h : w.ownsRow base e size (.slice ao n cap) n xs) (hao : 0 < n → ao = some ⟨g, 0, none⟩) {j : Nat} (hj : j < n * size) :
    (∃ u, w.cell? ⟨g, j, none⟩ = some u) ∧ w.frozen? ⟨g, j, none⟩ = false ∧ w.cell? ⟨g, j, none⟩ = xs[j]? ∧
    ∀ u, (w.setCell ⟨g, j, none⟩ u).ownsRow base e size (.slice ao n cap) n (xs.set j u) := by
  have hn : 0 < n := by rcases Nat.eq_zero_or_pos n with rfl | h'; · simp at hj
                        · exact h'
  have e := hao hn
  subst e
  have hc := h.cellAt j hj
  have hl := h.1
  exact ⟨⟨_, hc.trans (List.getElem?_eq_getElem (by omega))⟩, h.frozenAt j, hc, fun u => (h.stored j u).1⟩

theorem own_base {w : World} {base base' : Nat} {e : TypeId} {size : Nat} {v : Value} {n : Nat} {xs : List Value} (h : w.ownsRow base e size v n xs) (hb : base' ≤ base) : w.ownsRow base' e size v n xs := by
  obtain ⟨hl, hc⟩ := h
  refine ⟨hl, ?_⟩
  rcases hc with hc | ⟨g, cap, cur, hv, hg, r⟩
  · exact .inl hc
  · exact .inr ⟨g, cap, cur, hv, by omega, r⟩
theorem alloc_cell {w : World} {p : Addr} {v : Value} (o : Obj) (h : w.cell? p = some v) : (w.alloc o).cell? p = some v := below_cell ((Below.refl _ _).alloc (Nat.le_refl _) o) h

theorem toList_inj {a b : ByteArray} (h : a.toList = b.toList) : a = b := by
  rw [Lib.toList_data, Lib.toList_data] at h
  exact ByteArray.ext (Array.toList_inj.1 h)
theorem name_ne {a b : ByteArray} (h : ¬ a = b) : (!a.toList == b.toList) = true := by
  cases e : a.toList == b.toList
  · rfl
  · exact absurd (toList_inj (by simpa using e)) h

theorem below_stored {B : Nat} {w w' : World} (h : Below B w w') {g j : Nat} (hg : B ≤ g) (u : Value) : Below B w (w'.setCell ⟨g, j, none⟩ u) := h.setCell hg u

end Go.Proofs.Bell
