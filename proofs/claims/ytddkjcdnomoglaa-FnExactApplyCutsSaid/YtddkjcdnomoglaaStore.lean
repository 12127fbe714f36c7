/- A struct stored into a block of one's own: the world behind it by facts alone. -/
import Derived.Test.YtddkjcdnomoglaaMem
import Derived.Deep.MidRow
namespace Go.Proofs.Ytddkjcdnomoglaa
set_option linter.unusedVariables false
open Go.RowKit Go.Proofs.Bell Go.BigFrame

theorem Only.setCells {S : Nat → Prop} {b : Nat} (hb : S b) : ∀ (vs : List Value) (o : Nat) (a w : World), Only S a w → Only S a (w.setCells b o vs)
  | [], _, _, _, h => h
  | v :: r, o, a, w, h => by rw [World.setCells]; exact Only.setCells hb r (o + 1) a _ (h.setCell hb v)

theorem wpList_store_held {P : Program} {ops : Array Oper} {rest : List Oper} {op : Oper} {a : Act} {w : World} {Q : Exit → Act → World → Prop} (hgd : op.guard = none) (ty : TypeId) (x y : Operand) (ho : op.op = .store ty x y)
    (b o : Nat) (cells : Array Value) (hx : a.eval x = .pointer (some ⟨b, o, none⟩)) (hy : a.eval y = .agg cells)
    (ht : w.there b o cells.size) (hi : (P.info? ty).map (·.size) = some cells.size) (h1 : cells.all (·.oneCell') = true)
    (h : ∀ w', Only (· = b) w w' → w'.rangeAt b o cells.toList → (∀ o' v, w.cell? ⟨b, o', none⟩ = some v → (o' < o ∨ o + cells.size ≤ o') → w'.cell? ⟨b, o', none⟩ = some v) → (∀ p, w'.frozen? p = w.frozen? p) → wpList P ops Q rest (a.put op.dst undef) w') : wpList P ops Q (op :: rest) a w :=
  wpList_store_mid hgd ty x y ho b o cells hx hy ht hi h1 (h _ (Only.setCells (S := (· = b)) rfl _ _ _ _ (Only.refl _ _)) (World.rangeAt_setCells_same w b o _ (by simpa using ht))
    (fun o' v hv hap => by
      rw [World.cell?_setCells_out b cells.toList o w ⟨b, o', none⟩ (fun _ _ => by simpa using hap)]
      exact hv)
    (fun p => World.frozen?_setCells ..))

theorem there_setCell {w : World} {b' o' n : Nat} (h : w.there b' o' n) (b o : Nat) (v : Value) : (w.setCell ⟨b, o, none⟩ v).there b' o' n := World.there_setCells h b o [v]
theorem there_below {w w' : World} {b o n : Nat} (hb : Below w.heap.size w w') (h : w.there b o n) : w'.there b o n := fun j hj => by
  obtain ⟨h1, h2⟩ := h j hj
  obtain ⟨u, hu⟩ := Option.isSome_iff_exists.1 h1
  have hlt := World.block_lt_of_cell? w _ hu
  exact ⟨by rw [below_cell hb hu]; rfl, by rw [hb.frozen hlt]; exact h2⟩
theorem there_only {S : Nat → Prop} {w w' : World} {b o n : Nat} (ho : Only S w w') (h : w.there b o n) (hn : ¬ S b) (hf : ∀ p, w'.frozen? p = w.frozen? p) : w'.there b o n := fun j hj => by
  obtain ⟨h1, h2⟩ := h j hj
  obtain ⟨u, hu⟩ := Option.isSome_iff_exists.1 h1
  exact ⟨by rw [cell_only ho hu hn]; rfl, by rw [hf]; exact h2⟩

theorem sound_in_goal {w1 w2 : World} {q s g : Nat} {a b c d f t m : Int} (hs : s ≠ q) (hg : g ≠ q) (n2 : Only (· = q) w1 w2) (r2 : w2.rangeAt q 0 [.int .i64 a, .int .i64 b, .int .i64 c, .int .i64 d, .int .i64 f])
    (o2 : ∀ o' v, w1.cell? ⟨q, o', none⟩ = some v → (o' < 0 ∨ 0 + 5 ≤ o') → w2.cell? ⟨q, o', none⟩ = some v) (f2 : ∀ p, w2.frozen? p = w1.frozen? p)
    (ct : w1.cell? ⟨s, 5, none⟩ = some (.int .i64 t)) (cm : w1.cell? ⟨s, 6, none⟩ = some (.int .i64 m)) (e5 : w1.cell? ⟨q, 5, none⟩ = some (.int .i64 0)) (e6 : w1.cell? ⟨q, 6, none⟩ = some (.int .i64 0))
    (hq : ∀ j, w1.frozen? ⟨q, j, none⟩ = false) (ht : w1.there g 0 7) :
    (w2.cell? ⟨q, 0, none⟩ = some (.int .i64 a) ∧ w2.cell? ⟨q, 1, none⟩ = some (.int .i64 b) ∧ w2.cell? ⟨q, 2, none⟩ = some (.int .i64 c) ∧ w2.cell? ⟨q, 3, none⟩ = some (.int .i64 d) ∧ w2.cell? ⟨q, 4, none⟩ = some (.int .i64 f) ∧
      w2.cell? ⟨q, 5, none⟩ = some (.int .i64 0) ∧ w2.cell? ⟨q, 6, none⟩ = some (.int .i64 0)) ∧ w2.cell? ⟨s, 5, none⟩ = some (.int .i64 t) ∧ w2.cell? ⟨s, 6, none⟩ = some (.int .i64 m) ∧ (∀ j, w2.frozen? ⟨q, j, none⟩ = false) ∧ w2.there g 0 7 :=
  ⟨⟨r2 0 _ rfl, r2 1 _ rfl, r2 2 _ rfl, r2 3 _ rfl, r2 4 _ rfl, o2 5 _ e5 (.inr (by decide)), o2 6 _ e6 (.inr (by decide))⟩, cell_only n2 ct hs, cell_only n2 cm hs, fun j => (f2 _).trans (hq j), there_only n2 ht hg f2⟩

/-- does nothing; fits a list of operations whose first is a store -/
theorem at_store {P : Program} {ops : Array Oper} {rest : List Oper} {a : Act} {w : World} {Q : Exit → Act → World → Prop} {ty tt : TypeId} {x y : Operand} {p : String} {af : Array Edge} {g : Option (Nat × Bool)}
    (h : wpList P ops Q (⟨none, .store ty x y, tt, p, af, g⟩ :: rest) a w) : wpList P ops Q (⟨none, .store ty x y, tt, p, af, g⟩ :: rest) a w := h

theorem there7 {w : World} {g : Nat} (h : ∀ j, j < 7 → w.cell? ⟨g, j, none⟩ = some (.int .i64 0) ∧ w.frozen? ⟨g, j, none⟩ = false) : (w.cell? ⟨g, 0, none⟩ = some (.int .i64 0) ∧ w.cell? ⟨g, 1, none⟩ = some (.int .i64 0) ∧ w.cell? ⟨g, 2, none⟩ = some (.int .i64 0) ∧ w.cell? ⟨g, 3, none⟩ = some (.int .i64 0) ∧ w.cell? ⟨g, 4, none⟩ = some (.int .i64 0) ∧ w.cell? ⟨g, 5, none⟩ = some (.int .i64 0) ∧ w.cell? ⟨g, 6, none⟩ = some (.int .i64 0)) ∧
    (w.frozen? ⟨g, 0, none⟩ = false ∧ w.frozen? ⟨g, 1, none⟩ = false ∧ w.frozen? ⟨g, 2, none⟩ = false ∧ w.frozen? ⟨g, 3, none⟩ = false ∧ w.frozen? ⟨g, 4, none⟩ = false ∧ w.frozen? ⟨g, 5, none⟩ = false ∧ w.frozen? ⟨g, 6, none⟩ = false) :=
  ⟨⟨(h 0 (by omega)).1, (h 1 (by omega)).1, (h 2 (by omega)).1, (h 3 (by omega)).1, (h 4 (by omega)).1, (h 5 (by omega)).1, (h 6 (by omega)).1⟩, (h 0 (by omega)).2, (h 1 (by omega)).2, (h 2 (by omega)).2, (h 3 (by omega)).2, (h 4 (by omega)).2, (h 5 (by omega)).2, (h 6 (by omega)).2⟩

theorem cell_setCell (w : World) (b o b' o' : Nat) (v : Value) : (w.setCell ⟨b, o, none⟩ v).cell? ⟨b', o', none⟩ = if b = b' ∧ o = o' then (w.cell? ⟨b', o', none⟩).map (fun _ => v) else w.cell? ⟨b', o', none⟩ := by
  by_cases h : b = b' ∧ o = o'
  · rw [if_pos h]
    obtain ⟨rfl, rfl⟩ := h
    cases hc : w.cell? ⟨b, o, none⟩ with
    | some u => rw [World.cell?_setCell_same _ _ _ hc]; rfl
    | none =>
      cases hd : (w.setCell ⟨b, o, none⟩ v).cell? ⟨b, o, none⟩ with
      | none => rfl
      | some u =>
        exfalso
        simp only [World.setCell, World.cell?] at hc hd
        rw [Array.getElem?_modify] at hd
        cases hh : w.heap[b]? with
        | none => simp [hh] at hd
        | some ob =>
          cases ob with
          | cells c e f =>
            simp [hh] at hc hd
            have := (Array.getElem?_eq_some_iff.1 hd).1
            simp at this
            omega
          | _ => simp [hh] at hd
  · rw [if_neg h, World.cell?_setCell_other _ _ _ _ (by simpa using h)]

end Go.Proofs.Ytddkjcdnomoglaa
