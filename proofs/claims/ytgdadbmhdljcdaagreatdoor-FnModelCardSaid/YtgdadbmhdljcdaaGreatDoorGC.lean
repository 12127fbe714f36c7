/- Several texts of the proofs in one: App, Store, Names, Open, IndexRings, Open2. -/
import Derived.Test.YtgdadbmhdljcdaaGreatDoorGA
import Derived.Test.YtgdadbmhdljcdaaGreatDoorGB
import Derived.Deep.AppendLies
import Derived.Deep.MidRow
import Derived.Deep.Slices
import Derived.Deep.Strs
import Derived.Laws.IdiomStrings
import Derived.ProofKit
/- append of one element onto a slice of one's own. -/
namespace Go.Proofs.YtgdadbmhdljcdaaGreatDoor
set_option linter.unusedVariables false
open Go.RowKit Go.Proofs.Bell Go.BigFrame

theorem Only.of_grown {w w' : World} {row : Option Nat} (hg : w.grownBy w' row) : Only (fun b => row = some b) w w' :=
  ⟨hg.os, hg.tape, hg.output, hg.size, fun k hk hn => hg.block k hk (fun e => hn e.symm)⟩

theorem app1 {P : Program} {ops : Array Oper} {rest : List Oper} {o : Oper} {a : Act} {Q : Exit → Act → World → Prop} (s x : Operand) (t : TypeId)
    (base : Nat) (e : TypeId) (i : TypeInfo) (z : Value) (size bytes : Nat) (ht : P.underlying t = some (.slice e)) (hi : P.info? e = some i) (hz : i.zero = some z)
    (hsize : i.size = size) (hby : i.bytes = bytes) (hzs : z.cells.size = size) (hsz : 0 < size) (hb8 : bytes ≤ 100)
    (W : World) (v : Value) (n : Nat) (xs : List Value) (cs : Array Value) (hc : cs.size = size) (h1 : cs.toList.all (·.oneCell') = true)
    (ho : o.op = .call { callee := .builtin .append, args := #[s, x], argTypes := #[t, t] }) (hgd : o.guard = none)
    (hs : a.eval s = v) (hx : a.eval x = .slice (some ⟨W.heap.size, 0, none⟩) 1 1) (hown : W.ownsRow base e size v n xs) (hn : n ≤ 1000000) (hbase : base ≤ W.heap.size)
    (h : ∀ v' w', w'.ownsRow base e size v' (n + 1) (xs ++ cs.toList) → Only (fun b => v.ownBlock = some b) W w' → wpList P ops Q rest (a.put o.dst v') w') :
    wpList P ops Q (o :: rest) a (W.alloc (.cells cs e)) := by
  have hbb : (n + 1) * bytes ≤ 1000001 * 100 := Nat.mul_le_mul (by omega) hb8
  refine wpList_append_own _ hgd s x t ho base e i z size bytes ht hi hz hsize hby hzs hsz v n xs hs (hown.alloc _) ⟨W.heap.size, 0, none⟩ 1 1 cs.toList hx (by simp [hc]) (World.news_of_block (heap_alloc_new W _)) (fun u hu => List.all_eq_true.1 h1 u hu) (by unfold maxLen; omega) (by omega) (by simp; omega) ?_
  intro v' w' ho' hg _
  exact h v' w' ho' ((Only.of_below ((Below.refl _ _).alloc (Nat.le_refl _) _)).trans (Only.of_grown hg))

theorem app_C {ops : Array Oper} {rest : List Oper} {o : Oper} {a : Act} {Q : Exit → Act → World → Prop} (s x : Operand) (W : World) (base : Nat) (v : Value) (qs : List (Int × Int)) (p q : Int)
    (ho : o.op = .call { callee := .builtin .append, args := #[s, x], argTypes := #[65, 65] }) (hgd : o.guard = none)
    (hs : a.eval s = v) (hx : a.eval x = .slice (some ⟨W.heap.size, 0, none⟩) 1 1) (hown : OwnC base W v qs) (hn : qs.length ≤ 1000000) (hbase : base ≤ W.heap.size)
    (h : ∀ v' w', OwnC base w' v' (qs ++ [(p, q)]) → Only (fun b => v.ownBlock = some b) W w' → wpList Tryz.prog ops Q rest (a.put o.dst v') w') :
    wpList Tryz.prog ops Q (o :: rest) a (W.alloc (.cells #[.int .i64 p, .int .i64 q] 74)) := by
  obtain ⟨i0, hi, hz0, hz1, hz2⟩ := info_parts info_Cut
  exact app1 s x 65 base 74 i0 _ 2 16 Tryz.underlying65 hi hz0 hz1 hz2 rfl (by decide) (by decide) W v qs.length (pairs qs) _ rfl rfl ho hgd hs hx hown hn hbase
    (fun v' w' h1 h2 => h v' w' (by unfold OwnC; simpa [pairs] using h1) h2)

theorem app_I {ops : Array Oper} {rest : List Oper} {o : Oper} {a : Act} {Q : Exit → Act → World → Prop} (s x : Operand) (W : World) (base : Nat) (v : Value) (qs : List Int) (p : Int)
    (ho : o.op = .call { callee := .builtin .append, args := #[s, x], argTypes := #[42, 42] }) (hgd : o.guard = none)
    (hs : a.eval s = v) (hx : a.eval x = .slice (some ⟨W.heap.size, 0, none⟩) 1 1) (hown : OwnI base W v qs) (hn : qs.length ≤ 1000000) (hbase : base ≤ W.heap.size)
    (h : ∀ v' w', OwnI base w' v' (qs ++ [p]) → Only (fun b => v.ownBlock = some b) W w' → wpList Tryz.prog ops Q rest (a.put o.dst v') w') :
    wpList Tryz.prog ops Q (o :: rest) a (W.alloc (.cells #[.int .i64 p] 2)) := by
  obtain ⟨i0, hi, hz0, hz1, hz2⟩ := info_parts info_int64
  exact app1 s x 42 base 2 i0 _ 1 8 Tryz.underlying42 hi hz0 hz1 hz2 rfl (by decide) (by decide) W v qs.length (ints qs) _ rfl rfl ho hgd hs hx hown hn hbase
    (fun v' w' h1 h2 => h v' w' (by unfold OwnI; simpa [ints] using h1) h2)

theorem app_R {ops : Array Oper} {rest : List Oper} {o : Oper} {a : Act} {Q : Exit → Act → World → Prop} (s x : Operand) (W : World) (base : Nat) (v : Value) (qs : List (Int × Int × Int)) (p q r : Int)
    (ho : o.op = .call { callee := .builtin .append, args := #[s, x], argTypes := #[24, 24] }) (hgd : o.guard = none)
    (hs : a.eval s = v) (hx : a.eval x = .slice (some ⟨W.heap.size, 0, none⟩) 1 1) (hown : OwnR base W v qs) (hn : qs.length ≤ 1000000) (hbase : base ≤ W.heap.size)
    (h : ∀ v' w', OwnR base w' v' (qs ++ [(p, q, r)]) → Only (fun b => v.ownBlock = some b) W w' → wpList Tryz.prog ops Q rest (a.put o.dst v') w') :
    wpList Tryz.prog ops Q (o :: rest) a (W.alloc (.cells #[.int .i64 p, .int .i64 q, .int .i64 r] 37)) := by
  obtain ⟨i0, hi, hz0, hz1, hz2⟩ := info_parts info_Ring
  exact app1 s x 24 base 37 i0 _ 3 24 Tryz.underlying24 hi hz0 hz1 hz2 rfl (by decide) (by decide) W v qs.length (trips qs) _ rfl rfl ho hgd hs hx hown hn hbase
    (fun v' w' h1 h2 => h v' w' (by unfold OwnR; simpa [trips] using h1) h2)

theorem own_lo {w : World} {base : Nat} {e : TypeId} {size : Nat} {v : Value} {n : Nat} {xs : List Value} (h : w.ownsRow base e size v n xs) : ∀ k, v.ownBlock = some k → base ≤ k := fun k hk => (World.ownsRow.lt h k hk).1
theorem own_lt {w : World} {base : Nat} {e : TypeId} {size : Nat} {v : Value} {n : Nat} {xs : List Value} (h : w.ownsRow base e size v n xs) : ∀ k, v.ownBlock = some k → k < w.heap.size := fun k hk => (World.ownsRow.lt h k hk).2
theorem own_shape {w : World} {base : Nat} {e : TypeId} {size : Nat} {v : Value} {n : Nat} {xs : List Value} (h : w.ownsRow base e size v n xs) : ∃ ao cap, v = .slice ao n cap := by
  obtain ⟨ao, cap, g, h1, _⟩ := own_open h
  exact ⟨ao, cap, h1⟩
theorem own_empty (w : World) (e : TypeId) (size base : Nat) (hb : base ≤ w.heap.size) : (w.alloc (.cells #[] e)).ownsRow base e size (.slice (some ⟨w.heap.size, 0, none⟩) 0 0) 0 [] :=
  ⟨by simp, .inr ⟨w.heap.size, 0, #[], rfl, hb, heap_alloc_new w _, Nat.le_refl _, by simp, by simp, by simp⟩⟩

def RetC2 (qs : List (Int × Int)) (code : Value) (w : World) (e : Ending) (w' : World) : Prop := ∃ v, e = .returned (.tuple #[v, code]) ∧ OwnC w.heap.size w' v qs ∧ Below w.heap.size w w'
def RetI2 (qs : List Int) (code : Value) (w : World) (e : Ending) (w' : World) : Prop := ∃ v, e = .returned (.tuple #[v, code]) ∧ OwnI w.heap.size w' v qs ∧ Below w.heap.size w w'
def RetP2 (nm : ByteArray) (qs : List (Int × Int × Int)) (code : Value) (w : World) (e : Ending) (w' : World) : Prop := ∃ v, e = .returned (.tuple #[.agg #[.string nm, v], code]) ∧ OwnR w.heap.size w' v qs ∧ Below w.heap.size w w'

end Go.Proofs.YtgdadbmhdljcdaaGreatDoor

/- A struct stored into a block of one's own: the world behind it by facts alone. -/
namespace Go.Proofs.YtgdadbmhdljcdaaGreatDoor
set_option linter.unusedVariables false
open Go.RowKit Go.Proofs.Bell Go.BigFrame

theorem Only.setCells {S : Nat → Prop} {b : Nat} (hb : S b) : ∀ (vs : List Value) (o : Nat) (a w : World), Only S a w → Only S a (w.setCells b o vs)
  | [], _, _, _, h => h
  | v :: r, o, a, w, h => by rw [World.setCells]; exact Only.setCells hb r (o + 1) a _ (h.setCell hb v)

theorem wpList_store_held {P : Program} {ops : Array Oper} {rest : List Oper} {op : Oper} {a : Act} {w : World} {Q : Exit → Act → World → Prop} (hgd : op.guard = none) (ty : TypeId) (x y : Operand) (ho : op.op = .store ty x y)
    (b o : Nat) (cells : Array Value) (hx : a.eval x = .pointer (some ⟨b, o, none⟩)) (hy : a.eval y = .agg cells)
    (ht : w.there b o cells.size) (hi : (P.info? ty).map (·.size) = some cells.size) (h1 : cells.all (·.oneCell') = true)
    (h : ∀ w', Only (· = b) w w' → w'.rangeAt b o cells.toList → (∀ o' v, w.cell? ⟨b, o', none⟩ = some v → (o' < o ∨ o + cells.size ≤ o') → w'.cell? ⟨b, o', none⟩ = some v) → (∀ p, w'.frozen? p = w.frozen? p) → wpList P ops Q rest (a.put op.dst undef) w') : wpList P ops Q (op :: rest) a w :=
  wpList_store_mid hgd ty x y ho b o cells hx hy ht hi h1 (h _ (Only.setCells (S := (· = b)) rfl _ _ _ _ (Only.refl _ _)) (World.rangeAt_setCells_same w b o _ (by simpa using ht))
    (fun o' v hv hap => by
      rw [World.cell?_setCells_out b cells.toList o w ⟨b, o', none⟩ (fun _ _ => by simpa using hap)]
      exact hv)
    (fun p => World.frozen?_setCells ..))

theorem there_setCell {w : World} {b' o' n : Nat} (h : w.there b' o' n) (b o : Nat) (v : Value) : (w.setCell ⟨b, o, none⟩ v).there b' o' n := World.there_setCells h b o [v]
theorem there_below {w w' : World} {b o n : Nat} (hb : Below w.heap.size w w') (h : w.there b o n) : w'.there b o n := fun j hj => by
  obtain ⟨h1, h2⟩ := h j hj
  obtain ⟨u, hu⟩ := Option.isSome_iff_exists.1 h1
  have hlt := World.block_lt_of_cell? w _ hu
  exact ⟨by rw [below_cell hb hu]; rfl, by rw [hb.frozen hlt]; exact h2⟩
theorem there_only {S : Nat → Prop} {w w' : World} {b o n : Nat} (ho : Only S w w') (h : w.there b o n) (hn : ¬ S b) (hf : ∀ p, w'.frozen? p = w.frozen? p) : w'.there b o n := fun j hj => by
  obtain ⟨h1, h2⟩ := h j hj
  obtain ⟨u, hu⟩ := Option.isSome_iff_exists.1 h1
  exact ⟨by rw [cell_only ho hu hn]; rfl, by rw [hf]; exact h2⟩

theorem sound_in_goal {w1 w2 : World} {q s g : Nat} {a b c d f t m : Int} (hs : s ≠ q) (hg : g ≠ q) (n2 : Only (· = q) w1 w2) (r2 : w2.rangeAt q 0 [.int .i64 a, .int .i64 b, .int .i64 c, .int .i64 d, .int .i64 f])
    (o2 : ∀ o' v, w1.cell? ⟨q, o', none⟩ = some v → (o' < 0 ∨ 0 + 5 ≤ o') → w2.cell? ⟨q, o', none⟩ = some v) (f2 : ∀ p, w2.frozen? p = w1.frozen? p)
    (ct : w1.cell? ⟨s, 5, none⟩ = some (.int .i64 t)) (cm : w1.cell? ⟨s, 6, none⟩ = some (.int .i64 m)) (e5 : w1.cell? ⟨q, 5, none⟩ = some (.int .i64 0)) (e6 : w1.cell? ⟨q, 6, none⟩ = some (.int .i64 0))
    (hq : ∀ j, w1.frozen? ⟨q, j, none⟩ = false) (ht : w1.there g 0 7) :
    (w2.cell? ⟨q, 0, none⟩ = some (.int .i64 a) ∧ w2.cell? ⟨q, 1, none⟩ = some (.int .i64 b) ∧ w2.cell? ⟨q, 2, none⟩ = some (.int .i64 c) ∧ w2.cell? ⟨q, 3, none⟩ = some (.int .i64 d) ∧ w2.cell? ⟨q, 4, none⟩ = some (.int .i64 f) ∧
      w2.cell? ⟨q, 5, none⟩ = some (.int .i64 0) ∧ w2.cell? ⟨q, 6, none⟩ = some (.int .i64 0)) ∧ w2.cell? ⟨s, 5, none⟩ = some (.int .i64 t) ∧ w2.cell? ⟨s, 6, none⟩ = some (.int .i64 m) ∧ (∀ j, w2.frozen? ⟨q, j, none⟩ = false) ∧ w2.there g 0 7 :=
  ⟨⟨r2 0 _ rfl, r2 1 _ rfl, r2 2 _ rfl, r2 3 _ rfl, r2 4 _ rfl, o2 5 _ e5 (.inr (by decide)), o2 6 _ e6 (.inr (by decide))⟩, cell_only n2 ct hs, cell_only n2 cm hs, fun j => (f2 _).trans (hq j), there_only n2 ht hg f2⟩

/-- does nothing; fits a list of operations whose first is a store -/
theorem at_store {P : Program} {ops : Array Oper} {rest : List Oper} {a : Act} {w : World} {Q : Exit → Act → World → Prop} {ty tt : TypeId} {x y : Operand} {p : String} {af : Array Edge} {g : Option (Nat × Bool)}
    (h : wpList P ops Q (⟨none, .store ty x y, tt, p, af, g⟩ :: rest) a w) : wpList P ops Q (⟨none, .store ty x y, tt, p, af, g⟩ :: rest) a w := h

theorem there7 {w : World} {g : Nat} (h : ∀ j, j < 7 → w.cell? ⟨g, j, none⟩ = some (.int .i64 0) ∧ w.frozen? ⟨g, j, none⟩ = false) : (w.cell? ⟨g, 0, none⟩ = some (.int .i64 0) ∧ w.cell? ⟨g, 1, none⟩ = some (.int .i64 0) ∧ w.cell? ⟨g, 2, none⟩ = some (.int .i64 0) ∧ w.cell? ⟨g, 3, none⟩ = some (.int .i64 0) ∧ w.cell? ⟨g, 4, none⟩ = some (.int .i64 0) ∧ w.cell? ⟨g, 5, none⟩ = some (.int .i64 0) ∧ w.cell? ⟨g, 6, none⟩ = some (.int .i64 0)) ∧
    (w.frozen? ⟨g, 0, none⟩ = false ∧ w.frozen? ⟨g, 1, none⟩ = false ∧ w.frozen? ⟨g, 2, none⟩ = false ∧ w.frozen? ⟨g, 3, none⟩ = false ∧ w.frozen? ⟨g, 4, none⟩ = false ∧ w.frozen? ⟨g, 5, none⟩ = false ∧ w.frozen? ⟨g, 6, none⟩ = false) :=
  ⟨⟨(h 0 (by omega)).1, (h 1 (by omega)).1, (h 2 (by omega)).1, (h 3 (by omega)).1, (h 4 (by omega)).1, (h 5 (by omega)).1, (h 6 (by omega)).1⟩, (h 0 (by omega)).2, (h 1 (by omega)).2, (h 2 (by omega)).2, (h 3 (by omega)).2, (h 4 (by omega)).2, (h 5 (by omega)).2, (h 6 (by omega)).2⟩

theorem cell_setCell (w : World) (b o b' o' : Nat) (v : Value) : (w.setCell ⟨b, o, none⟩ v).cell? ⟨b', o', none⟩ = if b = b' ∧ o = o' then (w.cell? ⟨b', o', none⟩).map (fun _ => v) else w.cell? ⟨b', o', none⟩ := by
  by_cases h : b = b' ∧ o = o'
  · rw [if_pos h]
    obtain ⟨rfl, rfl⟩ := h
    cases hc : w.cell? ⟨b, o, none⟩ with
    | some u => rw [World.cell?_setCell_same _ _ _ hc]; rfl
    | none =>
      cases hd : (w.setCell ⟨b, o, none⟩ v).cell? ⟨b, o, none⟩ with
      | none => rfl
      | some u =>
        exfalso
        simp only [World.setCell, World.cell?] at hc hd
        rw [Array.getElem?_modify] at hd
        cases hh : w.heap[b]? with
        | none => simp [hh] at hd
        | some ob =>
          cases ob with
          | cells c e f =>
            simp [hh] at hc hd
            have := (Array.getElem?_eq_some_iff.1 hd).1
            simp at this
            omega
          | _ => simp [hh] at hd
  · rw [if_neg h, World.cell?_setCell_other _ _ _ _ (by simpa using h)]

end Go.Proofs.YtgdadbmhdljcdaaGreatDoor

/- Names: both functions. -/
namespace Go.Proofs.YtgdadbmhdljcdaaGreatDoor
set_option linter.unusedVariables false
open Go.RowKit Go.Proofs.Bell Go.BigFrame

def smallB (b : Int) : Bool := inB b 97 122
def digitB (b : Int) : Bool := inB b 48 57
def byteAt (s : ByteArray) (k : Nat) : Int := ((s.data.toList.getD k 0).toNat : Int)
def nameAt (s : ByteArray) (k : Nat) : Bool := smallB (byteAt s k) || (!(k == 0) && digitB (byteAt s k))
def nameB (s : ByteArray) : Bool := decide (1 ≤ s.size) && decide (s.size ≤ 10) && (List.range s.size).all (nameAt s)

theorem l01Small_c (b : Int) (w : World) (h0 : 0 ≤ b) (h1 : b ≤ 255) : Calls Tryz.prog 200 #[.int .u8 b] w (RetS (.bool (smallB b)) w) := by
  by_cases h : 97 ≤ b <;> by_cases h' : b ≤ 122 <;>
  · go_enter Tryz.func200, Tryz.ntmps200
    go_wp2
    go_returns
    exact RetS.mk (bool_eq (by simp [smallB, inB]; omega))

theorem l01Digit_c (b : Int) (w : World) (h0 : 0 ≤ b) (h1 : b ≤ 255) : Calls Tryz.prog 201 #[.int .u8 b] w (RetS (.bool (digitB b)) w) := by
  by_cases h : 48 ≤ b <;> by_cases h' : b ≤ 57 <;>
  · go_enter Tryz.func201, Tryz.ntmps201
    go_wp2
    go_returns
    exact RetS.mk (bool_eq (by simp [digitB, inB]; omega))

theorem byteAt_bd (s : ByteArray) (k : Nat) : 0 ≤ byteAt s k ∧ byteAt s k ≤ 255 := by
  unfold byteAt
  have := (s.data.toList.getD k 0).toNat_lt
  omega

theorem byteAt_eq {s : ByteArray} {k : Nat} (h : k < s.size) : ((s[k]'h).toNat : Int) = byteAt s k := by
  obtain ⟨⟨l⟩⟩ := s
  have hl : k < l.length := h
  have e : (ByteArray.mk ⟨l⟩)[k]'h = l.getD k 0 := by
    simp only [List.getD, List.getElem?_eq_getElem hl, Option.getD_some]
    rfl
  unfold byteAt
  rw [e]

theorem ixs {s : ByteArray} {k : Nat} (h : k < s.size) (i : Int) (hi : i = k) (w : World) : (Instr.index 9 (.string s) (.int .i64 i)).run Tryz.prog w = .ok (.int .u8 (byteAt s k)) w := by
  subst hi
  rw [run_index_string w 9 s .i64 _ Tryz.underlying9, dif_pos ⟨by omega, by omega⟩]
  simp only [Int.toNat_natCast]
  rw [byteAt_eq h]

set_option maxHeartbeats 800000 in
theorem l01Name_c (s : ByteArray) (w : World) (hs : s.size ≤ maxLen) : Calls Tryz.prog 180 #[.string s] w (RetS (.bool (nameB s)) w) := by
  unfold maxLen at hs
  by_cases h0 : s = ⟨#[]⟩
  · subst h0
    go_enter Tryz.func180, Tryz.ntmps180
    go_wp2
    go_returns
    exact RetS.mk (bool_eq (by decide))
  · have hne : s.toList.isEmpty = false := by
      have := name_ne h0
      simpa using this
    have hpos : 0 < s.size := by
      rcases Nat.eq_zero_or_pos s.size with e | e
      · exfalso; apply h0
        obtain ⟨d⟩ := s
        have : d.size = 0 := e
        rw [Array.eq_empty_of_size_eq_zero this]
      · exact e
    clear h0
    by_cases h10 : s.size ≤ 10
    · have hi0 := ixs (s := s) (k := 0) hpos 0 rfl
      have hb := byteAt_bd s 0
      have hn0 : nameAt s 0 = smallB (byteAt s 0) := by simp [nameAt]
      have hf : nameAt s 0 = false → nameB s = false := fun h => by unfold nameB; rw [range_false hpos h]; simp
      have HN0 := Lib.hid hn0; clear hn0
      have HF := Lib.hid hf; clear hf
      have hgo : ∀ k, k < s.size → nameAt s k = false → nameB s = false := fun k hk h => by unfold nameB; rw [range_false hk h]; simp
      have HGO := Lib.hid hgo; clear hgo
      have hok : (List.range s.size).all (nameAt s) = true → nameB s = true := fun h => by unfold nameB; rw [h]; simp; omega
      have HOK := Lib.hid hok; clear hok
      cases t0 : smallB (byteAt s 0)
      · go_enter Tryz.func180, Tryz.ntmps180
        go_wp2_with (go_at_call 200; refine (l01Small_c _ _ hb.1 hb.2).mono ?_; rintro _ _ ⟨rfl, rfl⟩; rw [t0])
        go_returns
        exact RetS.mk (bool_eq (HF.out (HN0.out.trans t0)).symm)
      · go_enter Tryz.func180, Tryz.ntmps180
        go_wp2_with (first | (go_at_call 200; refine (l01Small_c _ _ hb.1 hb.2).mono ?_; rintro _ _ ⟨rfl, rfl⟩; rw [t0]))
        go_loop [3] (fun i => ∃ (k : Nat), k ≤ s.size ∧ i = .int .i64 k ∧ (List.range k).all (nameAt s) = true) (fun i => s.size - (intOf i).toNat)
        case atStart => exact ⟨0, Nat.zero_le _, rfl, rfl⟩
        case round =>
          obtain ⟨k, hk, rfl, hx⟩ := hrel
          have HX := Lib.hid hx; clear hx
          by_cases hlt : k < s.size
          · have hix := ixs (s := s) (k := k) hlt k rfl
            have hbk := byteAt_bd s k
            have hp : nameAt s k = true → (List.range (k + 1)).all (nameAt s) = true := fun h => range_step HX.out h
            have HP := Lib.hid hp; clear hp
            have hq : nameAt s k = false → nameB s = false := HGO.out k hlt
            have HQ := Lib.hid hq; clear hq
            have hr : smallB (byteAt s k) = true → nameAt s k = true := fun h => by simp [nameAt, h]
            have hr2 : smallB (byteAt s k) = false → nameAt s k = digitB (byteAt s k) := fun h => by
              rcases Nat.eq_zero_or_pos k with rfl | hk
              · rw [h] at t0; cases t0
              · have : (k == 0) = false := by simp; omega
                simp [nameAt, h, this]
            have HR := Lib.hid hr; clear hr
            have HR2 := Lib.hid hr2; clear hr2
            have T0 := Lib.hid t0; clear t0
            clear hb hi0
            generalize byteAt s k = z at *
            cases t1 : smallB z
            · have hn2 := HR2.out t1
              cases t2 : digitB z
              · have HN2 := Lib.hid hn2; clear hn2
                go_wp2_with (first | (go_at_call 200; refine (l01Small_c _ _ hbk.1 hbk.2).mono ?_; rintro _ _ ⟨rfl, rfl⟩; rw [t1]) | (go_at_call 201; refine (l01Digit_c _ _ hbk.1 hbk.2).mono ?_; rintro _ _ ⟨rfl, rfl⟩; rw [t2]))
                go_returns
                exact RetS.mk (bool_eq (HQ.out (HN2.out.trans t2)).symm)
              · have HN2 := Lib.hid hn2; clear hn2
                go_wp2_with (first | (go_at_call 200; refine (l01Small_c _ _ hbk.1 hbk.2).mono ?_; rintro _ _ ⟨rfl, rfl⟩; rw [t1]) | (go_at_call 201; refine (l01Digit_c _ _ hbk.1 hbk.2).mono ?_; rintro _ _ ⟨rfl, rfl⟩; rw [t2]))
                go_round
                case rel => exact ⟨k + 1, by omega, by go_num, HP.out (HN2.out.trans t2)⟩
                case measure => simp [intOf]; omega
            · go_wp2_with (first | (go_at_call 200; refine (l01Small_c _ _ hbk.1 hbk.2).mono ?_; rintro _ _ ⟨rfl, rfl⟩; rw [t1]) | (go_at_call 201; refine (l01Digit_c _ _ hbk.1 hbk.2).mono ?_; rintro _ _ ⟨rfl, rfl⟩; rw [t2]))
              go_round
              case rel => exact ⟨k + 1, by omega, by go_num, HP.out (HR.out t1)⟩
              case measure => simp [intOf]; omega
          · obtain rfl : k = s.size := by omega
            go_wp2
            go_returns
            exact RetS.mk (bool_eq (HOK.out HX.out).symm)
    · have hf : nameB s = false := by unfold nameB; simp; omega
      have HF := Lib.hid hf; clear hf
      go_enter Tryz.func180, Tryz.ntmps180
      go_wp2
      go_returns
      exact RetS.mk (bool_eq HF.out.symm)

theorem conv_bytes (s : ByteArray) (w : World) : ∃ (cap : Nat) (w1 : World), (convert 9 22 (.string s)).run Tryz.prog w = .ok (.slice (some ⟨w.heap.size, 0, none⟩) s.size cap) w1 ∧ Below w.heap.size w w1 ∧
    ∀ k, k < s.size → w1.cell? ⟨w.heap.size, k, none⟩ = some (.int .u8 (byteAt s k)) := by
  refine ⟨_, _, run_bytes_of_string w 9 22 5 s Tryz.underlying9 Tryz.underlying22 Tryz.underlying5, ?_, ?_⟩
  · exact ((Below.refl _ _).drew).alloc (by simp) _
  · intro k hk
    have h1 := World.cell?_alloc_mark w.drew (bytesRow s (grownCap w s.size 0 5)) 5 ((bytesRow s (grownCap w s.size 0 5)).size, (bytesRow s (grownCap w s.size 0 5)).size + 1) k
    have h2 : w.drew.heap.size = w.heap.size := rfl
    rw [h2] at h1
    rw [h1, bytesRow_at s _ k hk]
    have := byteAt_eq hk
    rw [← this]
    rfl

theorem cells_u8 : Tryz.prog.cellsOf 5 = 1 := by kernel_rfl
theorem has_u8 : (Tryz.prog.info? 5).isSome = true := by kernel_rfl

theorem nameAt_eq (s : ByteArray) (k : Nat) : nameAt s k = (decide (97 ≤ byteAt s k) && decide (byteAt s k ≤ 122) || !(decide (k = 0)) && (decide (48 ≤ byteAt s k) && decide (byteAt s k ≤ 57))) := by
  have h : (k == 0) = decide (k = 0) := by by_cases h : k = 0 <;> simp [h]
  simp only [nameAt, smallB, digitB, inB, h, Bool.decide_and]

set_option maxHeartbeats 1600000 in
set_option maxRecDepth 1000000 in
theorem IsName_c (s : ByteArray) (w : World) (hs : s.size ≤ maxLen) : Calls Tryz.prog 105 #[.string s] w (RetB (.bool (nameB s)) w) := by
  unfold maxLen at hs
  by_cases h0 : 1 ≤ s.size
  · by_cases h10 : s.size ≤ 10
    · have hgo : ∀ k, k < s.size → nameAt s k = false → nameB s = false := fun k hk h => by unfold nameB; rw [range_false hk h]; simp
      have HGO := Lib.hid hgo; clear hgo
      have hok : (List.range s.size).all (nameAt s) = true → nameB s = true := fun h => by unfold nameB; rw [h]; simp; omega
      have HOK := Lib.hid hok; clear hok
      obtain ⟨cap, w1, hconv, b1, hc⟩ := conv_bytes s w
      have B1 := Lib.hid b1; clear b1
      have HC := Lib.hid hc; clear hc
      go_enter Tryz.func105, Tryz.ntmps105
      go_wp2_with fail
      go_loop [18] (fun i => ∃ (k : Nat), k ≤ s.size ∧ i = .int .i64 k ∧ (List.range k).all (nameAt s) = true) (fun i => s.size - (intOf i).toNat)
      case atStart => exact ⟨0, Nat.zero_le _, rfl, rfl⟩
      case round =>
        obtain ⟨k, hk, rfl, hx⟩ := hrel
        have HX := Lib.hid hx; clear hx
        by_cases hlt : k < s.size
        · have hix := ix (P := Tryz.prog) (T := 22) (cap := cap) (n := s.size) (b := w.heap.size) (off := 0) (ao := some ⟨w.heap.size, 0, none⟩) Tryz.underlying22 cells_u8 has_u8 (fun _ => rfl) hlt k rfl
          rw [Nat.mul_one, Nat.zero_add] at hix
          have hck := HC.out k hlt
          have hbk := byteAt_bd s k
          have hp : nameAt s k = true → (List.range (k + 1)).all (nameAt s) = true := fun h => range_step HX.out h
          have HP := Lib.hid hp; clear hp
          have hq : nameAt s k = false → nameB s = false := HGO.out k hlt
          have HQ := Lib.hid hq; clear hq
          have hn := nameAt_eq s k
          generalize byteAt s k = z at *
          clear hconv
          cases hkd : decide (k = 0)
          · have hk1 : ((k : Int) == 0) = false := by have := of_decide_eq_false hkd; simp; omega
            rw [hkd] at hn
            have HN := Lib.hid hn; clear hn
            by_cases a1 : 97 ≤ z <;> by_cases a2 : z ≤ 122 <;> by_cases a3 : 48 ≤ z <;> by_cases a4 : z ≤ 57 <;> first
            | (exfalso; omega)
            | (have hv : nameAt s k = true := (by rw [HN.out]; simp [a1, a2, a3, a4]; done)
               have HV := Lib.hid hv; clear hv
               go_wp2
               go_round
               case rel => exact ⟨k + 1, by omega, by go_num, HP.out HV.out⟩
               case measure => simp [intOf]; omega)
            | (have hv : nameAt s k = false := (by rw [HN.out]; simp [a1, a2, a3, a4]; done)
               have HV := Lib.hid hv; clear hv
               go_wp2
               go_returns
               exact RetB.mk (bool_eq (HQ.out HV.out).symm) B1.out)
          · have hk1 : ((k : Int) == 0) = true := by have := of_decide_eq_true hkd; simp [this]
            rw [hkd] at hn
            have HN := Lib.hid hn; clear hn
            by_cases a1 : 97 ≤ z <;> by_cases a2 : z ≤ 122 <;> by_cases a3 : 48 ≤ z <;> by_cases a4 : z ≤ 57 <;> first
            | (exfalso; omega)
            | (have hv : nameAt s k = true := (by rw [HN.out]; simp [a1, a2, a3, a4]; done)
               have HV := Lib.hid hv; clear hv
               go_wp2
               go_round
               case rel => exact ⟨k + 1, by omega, by go_num, HP.out HV.out⟩
               case measure => simp [intOf]; omega)
            | (have hv : nameAt s k = false := (by rw [HN.out]; simp [a1, a2, a3, a4]; done)
               have HV := Lib.hid hv; clear hv
               go_wp2
               go_returns
               exact RetB.mk (bool_eq (HQ.out HV.out).symm) B1.out)
        · obtain rfl : k = s.size := by omega
          go_wp2
          go_returns
          exact RetB.mk (bool_eq (HOK.out HX.out).symm) B1.out
    · have hf : nameB s = false := by unfold nameB; simp; omega
      have HF := Lib.hid hf; clear hf
      go_enter Tryz.func105, Tryz.ntmps105
      go_wp2
      go_returns
      exact RetB.mk (bool_eq HF.out.symm) (Below.refl _ _)
  · have hf : nameB s = false := by unfold nameB; simp; omega
    have HF := Lib.hid hf; clear hf
    go_enter Tryz.func105, Tryz.ntmps105
    go_wp2
    go_returns
    exact RetB.mk (bool_eq HF.out.symm) (Below.refl _ _)

end Go.Proofs.YtgdadbmhdljcdaaGreatDoor

/- The arguments of a law, opened: slices of numbers, of structs of numbers. -/
namespace Go.Proofs.YtgdadbmhdljcdaaGreatDoor
set_option linter.unusedVariables false
open Go.RowKit Go.Proofs.Bell Go.BigFrame
set_option maxRecDepth 100000
open Go.ChangeShapes Go.WideShapes Go.Deep

section
variable {H : Type} {enc : TypeId × Value → H} {P : Program} {w : World} {base : Nat} {spare : Nat → Bool} {held : Bool}

/-- a number that fits an int64 -/
def I64 (z : Int) : Prop := -9223372036854775808 ≤ z ∧ z ≤ 9223372036854775807
theorem i64_of_wf {z : Int} (h : (Lit.int .i64 z).wf = true) : I64 z := by
  have h1 : IntKind.i64.min = -9223372036854775808 := rfl
  have h2 : IntKind.i64.max = 9223372036854775807 := rfl
  simp only [Lit.wf, Bool.and_eq_true, decide_eq_true_eq] at h
  unfold I64
  omega

theorem add_norm {b off : Nat} {sp : Option Nat} (k : Nat) (h : sp = none) : (Addr.mk b off sp).add k = ⟨b, off + k, none⟩ := by
  subst h
  unfold Addr.add
  split <;> simp_all

theorem flat_at {α : Type} {cells : α → List Value} {s : Nat} (hl : ∀ x, (cells x).length = s) : ∀ (zs : List α) (k i : Nat) (hk : k < zs.length), i < s → (zs.flatMap cells)[k * s + i]? = (cells zs[k])[i]?
  | z :: zs, 0, i, _, hi => by simp [List.flatMap_cons, List.getElem?_append_left (by rw [hl]; exact hi : i < (cells z).length)]
  | z :: zs, k + 1, i, hk, hi => by
    have e : (k + 1) * s + i = (cells z).length + (k * s + i) := by rw [hl, Nat.add_mul]; omega
    rw [List.flatMap_cons, e, List.getElem?_append_right (by omega), Nat.add_sub_cancel_left]
    simpa using flat_at hl zs k i (by simpa using hk) hi

theorem flat_len {α : Type} {cells : α → List Value} {s : Nat} (hl : ∀ x, (cells x).length = s) : ∀ (zs : List α), (zs.flatMap cells).length = zs.length * s
  | [] => by simp
  | z :: zs => by rw [List.flatMap_cons, List.length_append, hl, flat_len hl zs, List.length_cons, Nat.add_mul]; omega

/-- a slice that came in, each of whose elements reads as some `z` -/
theorem rd_elems {α : Type} [Inhabited α] {cells : α → List Value} {Q : α → Prop} {s : Nat} (hl : ∀ x, (cells x).length = s) (hs : 0 < s) {t e : TypeId} {fuel : Nat} {cs0 : List Value} {x0 : DataW H × List MemPlace}
    (ht : P.underlying t = some (.slice e)) (hc : P.cellsOf e = s)
    (elem : ∀ n cs x, DataW.trod enc P w 0 (fun _ => true) true n e cs = some x → cs.length = s → ∃ z, cs = cells z ∧ Q z)
    (h : DataW.trod enc P w 0 (fun _ => true) true fuel t cs0 = some x0) :
    ∃ (v : Value) (zs : List α), cs0 = [v] ∧ Rd w v zs.length (zs.flatMap cells) ∧ ∀ z ∈ zs, Q z := by
  rcases open_slice ht h with ⟨hcs, _⟩ | ⟨a, len, cap, m, n, D, Pl, hcs, _, hlc, hcm, hmm, _, hx⟩
  · subst hcs
    exact ⟨_, [], rfl, ⟨Nat.zero_le _, .inl ⟨rfl, rfl, none, 0, rfl, fun _ => rfl, Nat.zero_le _⟩⟩, fun z hz => by cases hz⟩
  · subst hcs
    simp only [if_true] at hmm
    subst hmm
    rw [hc] at hx
    obtain ⟨f, hf⟩ := choose_lt (α := α) (p := fun i z => w.cells? 0 (a.add (i * s)) s = some (cells z) ∧ Q z) (n := m) (fun i hi => by
      obtain ⟨cs', h1, h2⟩ := hx i hi
      obtain ⟨_, hlen, _⟩ := World.cells?_some h1
      obtain ⟨z, rfl, hq⟩ := elem n cs' _ h2 hlen
      exact ⟨z, h1, hq⟩)
    refine ⟨_, (List.range len).map f, rfl, ?_, fun z hz => ?_⟩
    · rcases Nat.eq_zero_or_pos len with rfl | hp
      · exact ⟨Nat.zero_le _, .inl ⟨by simp, by simp, some a, m, rfl, (fun h => by cases h), hcm⟩⟩
      · have h0 := (World.cells?_some (hf 0 (by omega)).1).2.2 0 hs
        rw [Nat.zero_mul] at h0
        obtain ⟨b, off, sp⟩ := a
        obtain ⟨u, hu⟩ : ∃ u, (cells (f 0))[0]? = some u := ⟨_, List.getElem?_eq_getElem (by rw [hl]; exact hs)⟩
        rw [hu] at h0
        have hsp : sp = none := by simpa [Addr.add] using World.cell?_spot h0
        subst hsp
        have hb : b < w.heap.size := by
          have := World.block_lt_of_cell? w _ h0
          simpa [Addr.add] using this
        refine ⟨by simp only [List.length_map, List.length_range]; omega, .inr ⟨by simpa using hp, b, off, m, by simp, by simpa using hlc, hcm, hb, fun j u' hj => ?_⟩⟩
        have hj' : j < len * s := by
          have := (List.getElem?_eq_some_iff.1 hj).1
          rwa [flat_len hl, List.length_map, List.length_range] at this
        have hk : j / s < len := Nat.div_lt_of_lt_mul (by rwa [Nat.mul_comm] at hj')
        have hi : j % s < s := Nat.mod_lt _ hs
        have hjj : j / s * s + j % s = j := Nat.div_add_mod' j s
        have hcell := (World.cells?_some (hf (j / s) (by omega)).1).2.2 (j % s) hi
        rw [add_norm _ rfl, add_norm _ rfl, Nat.add_assoc, hjj] at hcell
        rw [hcell, ← hj]
        have := flat_at hl ((List.range len).map f) (j / s) (j % s) (by simpa using hk) hi
        rw [hjj] at this
        rw [this]
        simp
    · obtain ⟨i, hi, rfl⟩ := List.mem_map.1 hz
      exact (hf i (by have := List.mem_range.1 hi; omega)).2


/-- .. an argument itself -/
theorem open_elems {α : Type} [Inhabited α] {cells : α → List Value} {Q : α → Prop} {s : Nat} (hl : ∀ x, (cells x).length = s) (hs : 0 < s) {t e : TypeId} {v : Value} {d : DataW H} {p : List MemPlace} {r : Reach} {b0 : Nat}
    (ht : P.underlying t = some (.slice e)) (hc : P.cellsOf e = s)
    (elem : ∀ n cs x, DataW.trod enc P w 0 (fun _ => true) true n e cs = some x → cs.length = s → ∃ z, cs = cells z ∧ Q z)
    (hv : Value.okWide P w r b0 t v) (h : DataW.Trod enc P w 0 (fun _ => true) true t v d p) :
    ∃ zs : List α, Rd w v zs.length (zs.flatMap cells) ∧ ∀ z ∈ zs, Q z := by
  obtain ⟨ao, len, cap, rfl⟩ := okWide_slice ht hv
  obtain ⟨fuel, hf⟩ := h
  obtain ⟨v, zs, h1, h2, h3⟩ := rd_elems hl hs ht hc elem hf
  simp [Value.cells] at h1
  subst h1
  exact ⟨zs, h2, h3⟩

end

theorem ints_flat (zs : List Int) : zs.flatMap (fun z => [Value.int .i64 z]) = ints zs := by induction zs with
  | nil => rfl
  | cons z zs ih => rw [List.flatMap_cons, ih]; rfl

theorem open_int64S {H : Type} {enc : TypeId × Value → H} {w : World} {v : Value} {d : DataW H} {p : List MemPlace} {r : Reach} {b0 : Nat}
    (hv : Value.okWide Tryz.prog w r b0 42 v) (h : DataW.Trod enc Tryz.prog w 0 (fun _ => true) true 42 v d p) :
    ∃ zs : List Int, Rd w v zs.length (ints zs) ∧ ∀ z ∈ zs, I64 z := by
  obtain ⟨zs, h1, h2⟩ := open_elems (s := 1) (cells := fun z : Int => [Value.int .i64 z]) (Q := I64) (fun _ => rfl) (by omega) Tryz.underlying42 (by kernel_rfl) (fun n cs x hx _ => by
    obtain ⟨z, rfl, _, hw⟩ := DataW.trod_int Tryz.underlying2 hx
    exact ⟨z, rfl, i64_of_wf hw⟩) hv h
  exact ⟨zs, by rwa [ints_flat] at h1, h2⟩

end Go.Proofs.YtgdadbmhdljcdaaGreatDoor

/- slices.IndexFunc and ContainsFunc over rings. -/
namespace Go.Proofs.YtgdadbmhdljcdaaGreatDoor
set_option linter.unusedVariables false
open Go.RowKit Go.Proofs.Bell Go.BigFrame

set_option maxHeartbeats 800000 in
theorem IndexFuncRing_c (g : Nat) (cs : Array Value) (p : Int × Int × Int → Bool) (v : Value) (ps : List (Int × Int × Int)) (w : World) (h : Rd w v ps.length (trips ps))
    (hcall : ∀ (args : Array Value) (w : World), (callFunc g args).run Tryz.prog w = .ok (.enter g args) w)
    (hg : ∀ x, x ∈ ps → ∀ w', Below w.heap.size w w' → Calls Tryz.prog g (#[.agg #[.int .i64 x.1, .int .i64 x.2.1, .int .i64 x.2.2]] ++ cs) w' (RetB (.bool (p x)) w')) :
    Calls Tryz.prog 141 #[v, .func (.func g) #[] cs] w (RetB (.int .i64 (findI p ps)) w) := by
  generalize hn : ps.length = n at h
  have HN := Lib.hid hn; clear hn
  have HG := Lib.hid hg; clear hg
  obtain ⟨hn, ao, cap, b, off, rfl, hao, hcell⟩ := h.open
  clear h
  go_enter Tryz.func141, Tryz.ntmps141
  go_wp2_with fail
  go_loopw [8] (fun i wr => ∃ (k : Nat), k ≤ n ∧ i = .int .i64 k ∧ (ps.take k).all (fun x => !p x) = true ∧ Below w.heap.size w wr) (fun i _ => n - (intOf i).toNat)
  case atStart => exact ⟨0, Nat.zero_le _, rfl, rfl, Below.refl _ _⟩
  case round =>
    obtain ⟨k, hk, rfl, hx, hb⟩ := hrel
    have HX := Lib.hid hx; clear hx
    by_cases hlt : k < n
    · have hltp : k < ps.length := by rw [HN.out]; exact hlt
      have hix := ix (P := Tryz.prog) (T := 24) (cap := cap) Tryz.underlying24 cells_Ring has_Ring hao hlt k rfl
      have hc1 : wr.cell? ⟨b, off + k * 3, none⟩ = some (.int .i64 ps[k].1) := hcell _ hb _ _ (by omega) (trips_at hltp).1
      have hc2 : wr.cell? ⟨b, off + k * 3 + 1, none⟩ = some (.int .i64 ps[k].2.1) := hcell _ hb _ _ (by omega) (trips_at hltp).2.1
      have hc3 : wr.cell? ⟨b, off + k * 3 + 2, none⟩ = some (.int .i64 ps[k].2.2) := hcell _ hb _ _ (by omega) (trips_at hltp).2.2
      have hgk := HG.out ps[k] (List.getElem_mem hltp) wr hb
      have HGK := Lib.hid hgk; clear hgk
      have hp : p ps[k] = false → (ps.take (k + 1)).all (fun x => !p x) = true := fun h1 => all_take_step HX.out hltp (by rw [h1]; rfl)
      have hq : p ps[k] = true → findI p ps = k := fun h => findI_some HX.out hltp h
      have HP := Lib.hid hp; clear hp
      have HQ := Lib.hid hq; clear hq
      clear hcell
      generalize ps[k] = x at *
      go_wp2_with fail
      refine HGK.out.mono ?_
      rintro _ w1 ⟨rfl, hb1⟩
      have hb2 := hb.trans (hb1.mono hb.size)
      cases t1 : p x
      · go_wp2
        go_roundw
        case rel => exact ⟨k + 1, by omega, by go_num, HP.out t1, hb2⟩
        case measure => simp [intOf]; omega
      · go_wp2
        go_returns
        exact RetB.mk (int_eq (HQ.out t1).symm) hb2
    · obtain rfl : k = n := by omega
      go_wp2
      go_returns
      refine RetB.mk (int_eq ?_) hb
      have e := HX.out
      rw [List.take_of_length_le (by rw [HN.out]; exact Nat.le_refl _)] at e
      exact (findI_none e).symm

theorem ContainsFuncRing_c (g : Nat) (cs : Array Value) (p : Int × Int × Int → Bool) (v : Value) (ps : List (Int × Int × Int)) (w : World) (h : Rd w v ps.length (trips ps))
    (hcall : ∀ (args : Array Value) (w : World), (callFunc g args).run Tryz.prog w = .ok (.enter g args) w)
    (hg : ∀ x, x ∈ ps → ∀ w', Below w.heap.size w w' → Calls Tryz.prog g (#[.agg #[.int .i64 x.1, .int .i64 x.2.1, .int .i64 x.2.2]] ++ cs) w' (RetB (.bool (p x)) w')) :
    Calls Tryz.prog 106 #[v, .func (.func g) #[] cs] w (RetB (.bool (ps.any p)) w) := by
  have hf := findI_lt (p := p) (xs := ps)
  have HF := Lib.hid hf; clear hf
  have HG := Lib.hid hg; clear hg
  have HC := Lib.hid hcall; clear hcall
  have hi := IndexFuncRing_c g cs p v ps w h HC.out HG.out
  have HI := Lib.hid hi; clear hi
  generalize findI p ps = fi at *
  by_cases h0 : fi < 0
  · go_enter Tryz.func106, Tryz.ntmps106
    go_wp2_with (go_at_call 141; refine HI.out.mono ?_; rintro _ w1 ⟨rfl, hb1⟩)
    go_returns
    exact RetB.mk (bool_eq (by rw [HF.out.1 h0] <;> simp <;> omega)) ‹_›
  · have h1 : ps.any p = true := by
      cases h : ps.any p
      · exact absurd (HF.out.2 h) h0
      · rfl
    have H1 := Lib.hid h1; clear h1
    go_enter Tryz.func106, Tryz.ntmps106
    go_wp2_with (go_at_call 141; refine HI.out.mono ?_; rintro _ w1 ⟨rfl, hb1⟩)
    go_returns
    exact RetB.mk (bool_eq (by rw [H1.out] <;> simp <;> omega)) ‹_›

end Go.Proofs.YtgdadbmhdljcdaaGreatDoor

/- The arguments of a law, opened: structs, profiles. -/
namespace Go.Proofs.YtgdadbmhdljcdaaGreatDoor
set_option linter.unusedVariables false
open Go.RowKit Go.Proofs.Bell Go.BigFrame
set_option maxRecDepth 100000
open Go.ChangeShapes Go.WideShapes Go.Deep

theorem trips_flat (zs : List (Int × Int × Int)) : zs.flatMap (fun p => [Value.int .i64 p.1, .int .i64 p.2.1, .int .i64 p.2.2]) = trips zs := rfl

theorem k_int : Tryz.prog.cellsOf 2 = 1 := by kernel_rfl

theorem trodAll_four {H : Type} {enc : TypeId × Value → H} {P : Program} {w : World} {base : Nat} {spare : Nat → Bool} {held : Bool} {t t1 t2 t3 : TypeId} {args : Array Value} {ds : List (DataW H)} {ps : List MemPlace} (h : DataW.TrodAll enc P w base spare held [t, t1, t2, t3] args.toList ds ps) :
    ∃ v0 v1 v2 v3 d0 d1 d2 d3 p0 p1 p2 p3, args = #[v0, v1, v2, v3] ∧ ds = [d0, d1, d2, d3] ∧ ps = p0 ++ (p1 ++ (p2 ++ p3)) ∧ DataW.Trod enc P w base spare held t v0 d0 p0 ∧ DataW.Trod enc P w base spare held t1 v1 d1 p1 ∧ DataW.Trod enc P w base spare held t2 v2 d2 p2 ∧ DataW.Trod enc P w base spare held t3 v3 d3 p3 := by
  obtain ⟨v0, vs, d0, dr, p0, q, e, rfl, rfl, h0, h⟩ := trodAll_cons h
  obtain ⟨v1, vs1, d1, dr1, p1, q1, rfl, rfl, rfl, h1, h⟩ := trodAll_cons h
  obtain ⟨v2, vs2, d2, dr2, p2, q2, rfl, rfl, rfl, h2, h⟩ := trodAll_cons h
  obtain ⟨v3, vs3, d3, dr3, p3, q3, rfl, rfl, rfl, h3, h⟩ := trodAll_cons h
  obtain ⟨rfl, rfl, rfl⟩ := trodAll_nil h
  refine ⟨v0, v1, v2, v3, d0, d1, d2, d3, p0, p1, p2, p3, ?_, rfl, by simp, h0, h1, h2, h3⟩
  obtain ⟨l⟩ := args
  simpa using e

end Go.Proofs.YtgdadbmhdljcdaaGreatDoor

