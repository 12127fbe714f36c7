/- A text divided at a byte: the reference. -/
import Derived.Test.YtgdadbmhdljcdaaGreatDoorGC
import Derived.Test.YtgdadbmhdljcdaaGreatDoorTH
namespace Go.Proofs.YtgdadbmhdljcdaaGreatDoor
set_option linter.unusedVariables false
open Go.RowKit Go.Proofs.Bell Go.BigFrame

/-- as app1, for longer lists -/
theorem app1L {P : Program} {ops : Array Oper} {rest : List Oper} {o : Oper} {a : Act} {Q : Exit → Act → World → Prop} (s x : Operand) (t : TypeId)
    (base : Nat) (e : TypeId) (i : TypeInfo) (z : Value) (size bytes : Nat) (ht : P.underlying t = some (.slice e)) (hi : P.info? e = some i) (hz : i.zero = some z)
    (hsize : i.size = size) (hby : i.bytes = bytes) (hzs : z.cells.size = size) (hsz : 0 < size) (hb8 : bytes ≤ 100)
    (W : World) (v : Value) (n : Nat) (xs : List Value) (cs : Array Value) (hc : cs.size = size) (h1 : cs.toList.all (·.oneCell') = true)
    (ho : o.op = .call { callee := .builtin .append, args := #[s, x], argTypes := #[t, t] }) (hgd : o.guard = none)
    (hs : a.eval s = v) (hx : a.eval x = .slice (some ⟨W.heap.size, 0, none⟩) 1 1) (hown : W.ownsRow base e size v n xs) (hn : n ≤ 3000000) (hbase : base ≤ W.heap.size)
    (h : ∀ v' w', w'.ownsRow base e size v' (n + 1) (xs ++ cs.toList) → Only (fun b => v.ownBlock = some b) W w' → wpList P ops Q rest (a.put o.dst v') w') :
    wpList P ops Q (o :: rest) a (W.alloc (.cells cs e)) := by
  have hbb : (n + 1) * bytes ≤ 3000001 * 100 := Nat.mul_le_mul (by omega) hb8
  refine wpList_append_own _ hgd s x t ho base e i z size bytes ht hi hz hsize hby hzs hsz v n xs hs (hown.alloc _) ⟨W.heap.size, 0, none⟩ 1 1 cs.toList hx (by simp [hc]) (World.news_of_block (heap_alloc_new W _)) (fun u hu => List.all_eq_true.1 h1 u hu) (by unfold maxLen; omega) (by omega) (by simp; omega) ?_
  intro v' w' ho' hg _
  exact h v' w' ho' ((Only.of_below ((Below.refl _ _).alloc (Nat.le_refl _) _)).trans (Only.of_grown hg))

theorem app_WL {ops : Array Oper} {rest : List Oper} {o : Oper} {a : Act} {Q : Exit → Act → World → Prop} (s x : Operand) (W : World) (base : Nat) (v : Value) (qs : List ByteArray) (p : ByteArray)
    (ho : o.op = .call { callee := .builtin .append, args := #[s, x], argTypes := #[80, 80] }) (hgd : o.guard = none)
    (hs : a.eval s = v) (hx : a.eval x = .slice (some ⟨W.heap.size, 0, none⟩) 1 1) (hown : OwnW base W v qs) (hn : qs.length ≤ 3000000) (hbase : base ≤ W.heap.size)
    (h : ∀ v' w', OwnW base w' v' (qs ++ [p]) → Only (fun b => v.ownBlock = some b) W w' → wpList Tryz.prog ops Q rest (a.put o.dst v') w') :
    wpList Tryz.prog ops Q (o :: rest) a (W.alloc (.cells #[.string p] 9)) := by
  obtain ⟨i0, hi, hz0, hz1, hz2⟩ := info_parts info_string
  exact app1L s x 80 base 9 i0 _ 1 16 Tryz.underlying80 hi hz0 hz1 hz2 rfl (by decide) (by decide) W v qs.length (scells qs) _ rfl rfl ho hgd hs hx hown hn hbase
    (fun v' w' h1 h2 => h v' w' (by unfold OwnW; simpa [scells] using h1) h2)

def spl (c : UInt8) : List UInt8 → List (List UInt8)
  | [] => [[]]
  | x :: r => if x = c then [] :: spl c r else match spl c r with
    | [] => [[x]]
    | h :: t => (x :: h) :: t
theorem spl_ne (c : UInt8) : ∀ l, spl c l ≠ []
  | [] => by simp [spl]
  | x :: r => by
    unfold spl
    split
    · simp
    · split <;> simp
theorem spl_none {c : UInt8} : ∀ {a : List UInt8}, (∀ x ∈ a, x ≠ c) → spl c a = [a]
  | [], _ => rfl
  | x :: r, h => by
    rw [spl, if_neg (h x (List.mem_cons_self ..)), spl_none (fun y hy => h y (List.mem_cons_of_mem _ hy))]
theorem spl_app {c : UInt8} : ∀ {a b : List UInt8}, (∀ x ∈ a, x ≠ c) → spl c (a ++ c :: b) = a :: spl c b
  | [], b, _ => by simp [spl]
  | x :: r, b, h => by
    rw [List.cons_append, spl, if_neg (h x (List.mem_cons_self ..)), spl_app (fun y hy => h y (List.mem_cons_of_mem _ hy))]
/-- the pieces, joined again -/
theorem spl_join (c : UInt8) : ∀ l, Lib.join (spl c l) [c] = l
  | [] => by simp [spl, Lib.join_one]
  | x :: r => by
    have ih := spl_join c r
    have hne := spl_ne c r
    unfold spl
    split
    · rename_i e
      subst e
      cases hs : spl x r with
      | nil => exact absurd hs hne
      | cons h t =>
        rw [hs] at ih
        rw [Lib.join_cons] at ih ⊢
        simp only [Lib.joinTail, List.nil_append, List.singleton_append, List.cons_append, List.map_cons, List.flatten_cons] at ih ⊢
        rw [ih]
    · cases hs : spl c r with
      | nil => exact absurd hs hne
      | cons h t =>
        rw [hs] at ih
        rw [Lib.join_cons] at ih
        show Lib.join ((x :: h) :: t) [c] = x :: r
        rw [Lib.join_cons, List.cons_append, ih]
/-- joined pieces, divided again -/
theorem spl_of_join {c : UInt8} : ∀ {ps : List (List UInt8)}, ps ≠ [] → (∀ p ∈ ps, ∀ x ∈ p, x ≠ c) → spl c (Lib.join ps [c]) = ps
  | [], h, _ => absurd rfl h
  | [p], _, h => by rw [Lib.join_one]; exact spl_none (h p (List.mem_singleton.2 rfl))
  | p :: q :: r, _, h => by
    have ih := spl_of_join (c := c) (ps := q :: r) (by simp) (fun y hy => h y (List.mem_cons_of_mem _ hy))
    rw [Lib.join_cons] at ih ⊢
    simp only [Lib.joinTail, List.nil_append, List.singleton_append, List.cons_append, List.map_cons, List.flatten_cons] at ih ⊢
    rw [spl_app (h p (List.mem_cons_self ..)), ih]

def byteL (s : ByteArray) : List UInt8 := s.data.toList
theorem byteL_len (s : ByteArray) : (byteL s).length = s.size := Array.length_toList
theorem byteAt_L {s : ByteArray} {k : Nat} (h : k < (byteL s).length) : byteAt s k = (((byteL s)[k]).toNat : Int) := by
  unfold byteAt
  have e : s.data.toList.getD k 0 = (byteL s)[k] := by
    show (byteL s).getD k 0 = _
    simp only [List.getD, List.getElem?_eq_getElem h, Option.getD_some]
  rw [e]
theorem extract_L (s : ByteArray) (i j : Nat) : s.extract i j = str (((byteL s).take j).drop i) := by
  apply ByteArray.ext
  rw [ByteArray.data_extract]
  apply Array.toList_inj.1
  rw [Array.toList_extract]
  simp only [str, byteL, List.extract_eq_take_drop, List.drop_take]
theorem spl_at {l : List UInt8} {c : UInt8} {fr k : Nat} (hf : fr ≤ k) (hk : k < l.length) (hno : ∀ j, fr ≤ j → (hj : j < k) → l[j] ≠ c) (he : l[k] = c) : spl c (l.drop fr) = ((l.take k).drop fr) :: spl c (l.drop (k + 1)) := by
  have e : l.drop fr = ((l.take k).drop fr) ++ c :: l.drop (k + 1) := by
    rw [← he]
    conv => lhs; rw [← List.take_append_drop k l, List.drop_append_of_le_length (by rw [List.length_take]; omega), List.drop_eq_getElem_cons hk]
  rw [e]
  exact spl_app (fun x hx => by
    obtain ⟨j, hj, rfl⟩ := List.getElem_of_mem hx
    rw [List.length_drop, List.length_take] at hj
    rw [List.getElem_drop, List.getElem_take]
    exact hno (fr + j) (by omega) (by omega))
theorem spl_end {l : List UInt8} {c : UInt8} {fr : Nat} (hno : ∀ j, fr ≤ j → (hj : j < l.length) → l[j] ≠ c) : spl c (l.drop fr) = [l.drop fr] :=
  spl_none (fun x hx => by
    obtain ⟨j, hj, rfl⟩ := List.getElem_of_mem hx
    rw [List.length_drop] at hj
    rw [List.getElem_drop]
    exact hno (fr + j) (by omega) (by omega))

end Go.Proofs.YtgdadbmhdljcdaaGreatDoor
