/- Lists of texts and of what is read out of them: the rows that lie apart, and longer lists. -/
import Derived.Test.YtgdadbmhdljcdaaGreatDoorGA
import Derived.Test.YtgdadbmhdljcdaaGreatDoorGC
import Derived.Test.YtgdadbmhdljcdaaGreatDoorTxtX
import Derived.Laws.OwnMore
namespace Go.Proofs.YtgdadbmhdljcdaaGreatDoor
set_option linter.unusedVariables false
open Go.RowKit Go.Proofs.Bell Go.BigFrame

theorem own_apart {w : World} {b1 b2 : Nat} {e1 e2 : TypeId} {s1 s2 : Nat} {v1 v2 : Value} {n1 n2 : Nat} {x1 x2 : List Value} (h1 : w.ownsRow b1 e1 s1 v1 n1 x1) (h2 : w.ownsRow b2 e2 s2 v2 n2 x2) (he : e1 ≠ e2) :
    ∀ k, v1.ownBlock = some k → ¬ v2.ownBlock = some k := by
  intro k h3 h4
  rcases h1.2 with ⟨rfl, _⟩ | ⟨g, cap, cur, rfl, _, hg, _⟩
  · cases h3
  · rcases h2.2 with ⟨rfl, _⟩ | ⟨g', cap', cur', rfl, _, hg', _⟩
    · cases h4
    · have e3 : g = k := Option.some.inj h3
      have e4 : g' = k := Option.some.inj h4
      subst e3
      subst e4
      rw [hg] at hg'
      injection hg' with e
      injection e with _ e
      exact he e
theorem app_CL {ops : Array Oper} {rest : List Oper} {o : Oper} {a : Act} {Q : Exit → Act → World → Prop} (s x : Operand) (W : World) (base : Nat) (v : Value) (qs : List (Int × Int)) (p q : Int)
    (ho : o.op = .call { callee := .builtin .append, args := #[s, x], argTypes := #[65, 65] }) (hgd : o.guard = none)
    (hs : a.eval s = v) (hx : a.eval x = .slice (some ⟨W.heap.size, 0, none⟩) 1 1) (hown : OwnC base W v qs) (hn : qs.length ≤ 3000000) (hbase : base ≤ W.heap.size)
    (h : ∀ v' w', OwnC base w' v' (qs ++ [(p, q)]) → Only (fun b => v.ownBlock = some b) W w' → wpList Tryz.prog ops Q rest (a.put o.dst v') w') :
    wpList Tryz.prog ops Q (o :: rest) a (W.alloc (.cells #[.int .i64 p, .int .i64 q] 74)) := by
  obtain ⟨i0, hi, hz0, hz1, hz2⟩ := info_parts info_Cut
  exact app1L s x 65 base 74 i0 _ 2 16 Tryz.underlying65 hi hz0 hz1 hz2 rfl (by decide) (by decide) W v qs.length (pairs qs) _ rfl rfl ho hgd hs hx hown hn hbase
    (fun v' w' h1 h2 => h v' w' (by unfold OwnC; simpa [pairs] using h1) h2)
theorem app_IL {ops : Array Oper} {rest : List Oper} {o : Oper} {a : Act} {Q : Exit → Act → World → Prop} (s x : Operand) (W : World) (base : Nat) (v : Value) (qs : List Int) (p : Int)
    (ho : o.op = .call { callee := .builtin .append, args := #[s, x], argTypes := #[42, 42] }) (hgd : o.guard = none)
    (hs : a.eval s = v) (hx : a.eval x = .slice (some ⟨W.heap.size, 0, none⟩) 1 1) (hown : OwnI base W v qs) (hn : qs.length ≤ 3000000) (hbase : base ≤ W.heap.size)
    (h : ∀ v' w', OwnI base w' v' (qs ++ [p]) → Only (fun b => v.ownBlock = some b) W w' → wpList Tryz.prog ops Q rest (a.put o.dst v') w') :
    wpList Tryz.prog ops Q (o :: rest) a (W.alloc (.cells #[.int .i64 p] 2)) := by
  obtain ⟨i0, hi, hz0, hz1, hz2⟩ := info_parts info_int64
  exact app1L s x 42 base 2 i0 _ 1 8 Tryz.underlying42 hi hz0 hz1 hz2 rfl (by decide) (by decide) W v qs.length (ints qs) _ rfl rfl ho hgd hs hx hown hn hbase
    (fun v' w' h1 h2 => h v' w' (by unfold OwnI; simpa [ints] using h1) h2)
theorem app_RL {ops : Array Oper} {rest : List Oper} {o : Oper} {a : Act} {Q : Exit → Act → World → Prop} (s x : Operand) (W : World) (base : Nat) (v : Value) (qs : List (Int × Int × Int)) (p q r : Int)
    (ho : o.op = .call { callee := .builtin .append, args := #[s, x], argTypes := #[24, 24] }) (hgd : o.guard = none)
    (hs : a.eval s = v) (hx : a.eval x = .slice (some ⟨W.heap.size, 0, none⟩) 1 1) (hown : OwnR base W v qs) (hn : qs.length ≤ 3000000) (hbase : base ≤ W.heap.size)
    (h : ∀ v' w', OwnR base w' v' (qs ++ [(p, q, r)]) → Only (fun b => v.ownBlock = some b) W w' → wpList Tryz.prog ops Q rest (a.put o.dst v') w') :
    wpList Tryz.prog ops Q (o :: rest) a (W.alloc (.cells #[.int .i64 p, .int .i64 q, .int .i64 r] 37)) := by
  obtain ⟨i0, hi, hz0, hz1, hz2⟩ := info_parts info_Ring
  exact app1L s x 24 base 37 i0 _ 3 24 Tryz.underlying24 hi hz0 hz1 hz2 rfl (by decide) (by decide) W v qs.length (trips qs) _ rfl rfl ho hgd hs hx hown hn hbase
    (fun v' w' h1 h2 => h v' w' (by unfold OwnR; simpa [trips] using h1) h2)
theorem spl_mem_len {c : UInt8} : ∀ {l p : List UInt8}, p ∈ spl c l → p.length ≤ l.length
  | [], p, h => by
    simp only [spl, List.mem_singleton] at h
    rw [h]; exact Nat.le_refl _
  | x :: r, p, h => by
    have ih := fun q => spl_mem_len (c := c) (l := r) (p := q)
    unfold spl at h
    split at h
    · rcases List.mem_cons.1 h with e | h
      · rw [e]; exact Nat.zero_le _
      · have := ih p h; simp; omega
    · split at h
      · rename_i e
        exact absurd e (spl_ne c r)
      · rename_i hh t e
        rcases List.mem_cons.1 h with e2 | h
        · have := ih hh (by rw [e]; simp)
          rw [e2]; simp; omega
        · have := ih p (by rw [e]; exact List.mem_cons_of_mem _ h)
          simp; omega
/-- the texts' cells -/
theorem scells_str {ls : List (List UInt8)} {k : Nat} (h : k < ls.length) : (scells (ls.map str))[k]? = some (.string (str ls[k])) := by
  simp [scells, h]
theorem spl_len_le' (c : UInt8) : ∀ l : List UInt8, (spl c l).length ≤ l.length + 1
  | [] => by simp [spl]
  | x :: r => by
    have ih := spl_len_le' c r
    unfold spl
    split
    · simp; omega
    · split
      · simp
      · rename_i h t e; rw [e] at ih; simp at ih ⊢; omega
/-- a box of two numbers that can be written -/
structure BoxC (w : World) (g : Nat) (x y : Int) : Prop where
  c0 : w.cell? ⟨g, 0, none⟩ = some (.int .i64 x)
  c1 : w.cell? ⟨g, 1, none⟩ = some (.int .i64 y)
  f : ∀ j, w.frozen? ⟨g, j, none⟩ = false
theorem BoxC.lt {w : World} {g : Nat} {x y : Int} (h : BoxC w g x y) : g < w.heap.size := World.block_lt_of_cell? _ _ h.c0
theorem BoxC.new (w : World) (e : TypeId) (x y : Int) : BoxC (w.alloc (.cells #[.int .i64 x, .int .i64 y] e)) w.heap.size x y :=
  ⟨by simp [go_sem], by simp [go_sem], fun j => by simp [go_sem]⟩
theorem BoxC.later {w w' : World} {g : Nat} {x y : Int} (h : BoxC w g x y) (hb : Below w.heap.size w w') : BoxC w' g x y :=
  ⟨below_cell hb h.c0, below_cell hb h.c1, fun j => (hb.frozen (p := ⟨g, j, none⟩) h.lt).trans (h.f j)⟩
theorem BoxC.set0 {w : World} {g : Nat} {x y : Int} (h : BoxC w g x y) (z : Int) : BoxC (w.setCell ⟨g, 0, none⟩ (.int .i64 z)) g z y :=
  ⟨by rw [cell_setCell, if_pos ⟨rfl, rfl⟩, h.c0]; rfl, by rw [cell_setCell, if_neg (by omega)]; exact h.c1, fun j => (World.frozen?_setCell _ _ _ _).trans (h.f j)⟩
theorem BoxC.set1 {w : World} {g : Nat} {x y : Int} (h : BoxC w g x y) (z : Int) : BoxC (w.setCell ⟨g, 1, none⟩ (.int .i64 z)) g x z :=
  ⟨by rw [cell_setCell, if_neg (by omega)]; exact h.c0, by rw [cell_setCell, if_pos ⟨rfl, rfl⟩, h.c1]; rfl, fun j => (World.frozen?_setCell _ _ _ _).trans (h.f j)⟩
theorem only_set (w : World) (g o : Nat) (v : Value) : Only (fun b => b = g) w (w.setCell ⟨g, o, none⟩ v) := (Only.refl (fun b => b = g) w).setCell (p := ⟨g, o, none⟩) rfl v
/-- a box whose cells are known and can be written -/
structure BoxV (w : World) (g : Nat) (cs : List Value) : Prop where
  c : ∀ j v, cs[j]? = some v → w.cell? ⟨g, j, none⟩ = some v
  f : ∀ j, w.frozen? ⟨g, j, none⟩ = false
  lt : g < w.heap.size
theorem BoxV.new (w : World) (e : TypeId) (cs : List Value) : BoxV (w.alloc (.cells cs.toArray e)) w.heap.size cs := by
  refine ⟨fun j v h => ?_, fun j => by simp [go_sem], by simp⟩
  have hj := (List.getElem?_eq_some_iff.1 h).1
  have hv := (List.getElem?_eq_some_iff.1 h).2
  simp only [World.cell?, heap_alloc_new]
  simp [hj, hv]
theorem BoxV.later {w w' : World} {g : Nat} {cs : List Value} (h : BoxV w g cs) (hb : Below w.heap.size w w') : BoxV w' g cs :=
  ⟨fun j v e => below_cell hb (h.c j v e), fun j => (hb.frozen (p := ⟨g, j, none⟩) h.lt).trans (h.f j), Nat.lt_of_lt_of_le h.lt hb.size⟩
theorem BoxV.only {S : Nat → Prop} {w w' : World} {g : Nat} {cs : List Value} (h : BoxV w g cs) (ho : Only S w w') (hn : ¬ S g) : BoxV w' g cs :=
  ⟨fun j v e => cell_only ho (h.c j v e) hn, fun j => (World.frozen?_of_block (a := ⟨g, j, none⟩) (ho.block g h.lt hn)).trans (h.f j), Nat.lt_of_lt_of_le h.lt ho.size⟩
theorem BoxV.set {w : World} {g : Nat} {cs : List Value} (h : BoxV w g cs) (o : Nat) (u : Value) : BoxV (w.setCell ⟨g, o, none⟩ u) g (cs.set o u) := by
  refine ⟨fun j v e => ?_, fun j => (World.frozen?_setCell _ _ _ _).trans (h.f j), by rw [World.size_setCell]; exact h.lt⟩
  rw [cell_setCell]
  rw [List.getElem?_set] at e
  by_cases ho : o = j
  · subst ho
    rw [if_pos ⟨rfl, rfl⟩]
    rw [if_pos rfl] at e
    split at e
    · rename_i hl
      obtain rfl := Option.some.inj e
      rw [h.c o cs[o] (List.getElem?_eq_getElem hl)]; rfl
    · cases e
  · rw [if_neg (by simpa using ho)]
    rw [if_neg ho] at e
    exact h.c j v e
theorem BoxV.there {w : World} {g : Nat} {cs : List Value} (h : BoxV w g cs) : w.there g 0 cs.length := fun j hj => by
  rw [Nat.zero_add]
  exact ⟨by rw [h.c j cs[j] (List.getElem?_eq_getElem hj)]; rfl, h.f j⟩
theorem BoxV.of_range {w w' : World} {g : Nat} {cs ds : List Value} (h : BoxV w g cs) (hr : w'.rangeAt g 0 ds) (hf : ∀ p, w'.frozen? p = w.frozen? p) (ho : Only (· = g) w w') : BoxV w' g ds :=
  ⟨fun j v e => by have := hr j v e; rwa [Nat.zero_add] at this, fun j => (hf _).trans (h.f j), Nat.lt_of_lt_of_le h.lt ho.size⟩
/-- a box of a known type whose cells are known and can be written -/
structure BoxE (w : World) (g : Nat) (e : TypeId) (cs : List Value) : Prop where
  v : BoxV w g cs
  t : ∃ cur fz, w.heap[g]? = some (.cells cur e fz)
theorem BoxE.new (w : World) (e : TypeId) (cs : List Value) : BoxE (w.alloc (.cells cs.toArray e)) w.heap.size e cs := ⟨BoxV.new w e cs, _, _, heap_alloc_new w _⟩
theorem BoxE.later {w w' : World} {g : Nat} {e : TypeId} {cs : List Value} (h : BoxE w g e cs) (hb : Below w.heap.size w w') : BoxE w' g e cs :=
  ⟨h.v.later hb, by obtain ⟨a, b, c⟩ := h.t; exact ⟨a, b, by rw [hb.block g h.v.lt]; exact c⟩⟩
theorem BoxE.only {S : Nat → Prop} {w w' : World} {g : Nat} {e : TypeId} {cs : List Value} (h : BoxE w g e cs) (ho : Only S w w') (hn : ¬ S g) : BoxE w' g e cs :=
  ⟨h.v.only ho hn, by obtain ⟨a, b, c⟩ := h.t; exact ⟨a, b, by rw [ho.block g h.v.lt hn]; exact c⟩⟩
theorem BoxE.set {w : World} {g : Nat} {e : TypeId} {cs : List Value} (h : BoxE w g e cs) (o : Nat) (u : Value) : BoxE (w.setCell ⟨g, o, none⟩ u) g e (cs.set o u) := by
  refine ⟨h.v.set o u, ?_⟩
  obtain ⟨a, b, c⟩ := h.t
  simp only [World.setCell, Array.getElem?_modify, c]
  simp
theorem own_box {w : World} {b1 g : Nat} {e1 e2 : TypeId} {s1 : Nat} {v1 : Value} {n1 : Nat} {x1 cs : List Value} (h1 : w.ownsRow b1 e1 s1 v1 n1 x1) (h2 : BoxE w g e2 cs) (he : e1 ≠ e2) : ∀ k, v1.ownBlock = some k → k ≠ g := by
  intro k h3 h4
  subst h4
  obtain ⟨a, b, c⟩ := h2.t
  rcases h1.2 with ⟨rfl, _⟩ | ⟨g', cap, cur, rfl, _, hg, _⟩
  · cases h3
  · have e3 : g' = k := Option.some.inj h3
    subst e3
    rw [hg] at c
    injection c with e
    injection e with _ e
    exact he e
theorem reslice_one {g n c : Nat} (h1 : 1 ≤ n) (h2 : n ≤ c) (h3 : (c : Int) ≤ 9223372036854775807) : ∃ of cq, (of = 1 ∨ n = 1) ∧ ∀ w, (Instr.slice 80 (.slice (some ⟨g, 0, none⟩) n c) (some (.int .i64 1)) none none).run Tryz.prog w = .ok (.slice (some ⟨g, of, none⟩) (n - 1) cq) w := by
  have i1 : (1 : Int) ≤ (n : Int) := by omega
  have i2 : (n : Int) ≤ (c : Int) := by omega
  by_cases hc : c = 1
  · obtain rfl : n = 1 := by omega
    subst hc
    exact ⟨0, 0, .inr rfl, fun w => by simp [Instr.slice, run_underlying Tryz.underlying80, go_sem]⟩
  · refine ⟨1, c - 1, .inl rfl, fun w => ?_⟩
    have hc2 : ¬ (c - 1 = 0) := by omega
    simp [Instr.slice, run_underlying Tryz.underlying80, go_sem, i1, i2, h1, h2, hc, hc2]

end Go.Proofs.YtgdadbmhdljcdaaGreatDoor
