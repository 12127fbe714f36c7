/- A text divided at a byte: the reference. -/
import Derived.Test.YtgdadbmhdljcdaaDoorGC
import Derived.Test.YtgdadbmhdljcdaaDoorTH
namespace Go.Proofs.YtgdadbmhdljcdaaDoor
set_option linter.unusedVariables false
open Go.RowKit Go.Proofs.Bell Go.BigFrame

/-- as app1, for longer lists -/
theorem app1L {P : Program} {ops : Array Oper} {rest : List Oper} {o : Oper} {a : Act} {Q : Exit → Act → World → Prop} (s x : Operand) (t : TypeId)
    (base : Nat) (e : TypeId) (i : TypeInfo) (z : Value) (size bytes : Nat) (ht : P.underlying t = some (.slice e)) (hi : P.info? e = some i) (hz : i.zero = some z)
    (hsize : i.size = size) (hby : i.bytes = bytes) (hzs : z.cells.size = size) (hsz : 0 < size) (hb8 : bytes ≤ 100)
    (W : World) (v : Value) (n : Nat) (xs : List Value) (cs : Array Value) (hc : cs.size = size) (h1 : cs.toList.all (·.oneCell') = true)
    (ho : o.op = .call { callee := .builtin .append, args := #[s, x], argTypes := #[t, t] }) (hgd : o.guard = none)
    (hs : a.eval s = v) (hx : a.eval x = .slice (some ⟨W.heap.size, 0, none⟩) 1 1) (hown : W.ownsRow base e size v n xs) (hn : n ≤ 3000000) (hbase : base ≤ W.heap.size)
    (h : ∀ v' w', w'.ownsRow base e size v' (n + 1) (xs ++ cs.toList) → Only (fun b => v.ownBlock = some b) W w' → wpList P ops Q rest (a.put o.dst v') w') :
    wpList P ops Q (o :: rest) a (W.alloc (.cells cs e)) := by
  have hbb : (n + 1) * bytes ≤ 3000001 * 100 := Nat.mul_le_mul (by omega) hb8
  refine wpList_append_own _ hgd s x t ho base e i z size bytes ht hi hz hsize hby hzs hsz v n xs hs (hown.alloc _) ⟨W.heap.size, 0, none⟩ 1 1 cs.toList hx (by simp [hc]) (World.news_of_block (heap_alloc_new W _)) (fun u hu => List.all_eq_true.1 h1 u hu) (by unfold maxLen; omega) (by omega) (by simp; omega) ?_
  intro v' w' ho' hg _
  exact h v' w' ho' ((Only.of_below ((Below.refl _ _).alloc (Nat.le_refl _) _)).trans (Only.of_grown hg))

theorem app_WL {ops : Array Oper} {rest : List Oper} {o : Oper} {a : Act} {Q : Exit → Act → World → Prop} (s x : Operand) (W : World) (base : Nat) (v : Value) (qs : List ByteArray) (p : ByteArray)
    (ho : o.op = .call { callee := .builtin .append, args := #[s, x], argTypes := #[70, 70] }) (hgd : o.guard = none)
    (hs : a.eval s = v) (hx : a.eval x = .slice (some ⟨W.heap.size, 0, none⟩) 1 1) (hown : OwnW base W v qs) (hn : qs.length ≤ 3000000) (hbase : base ≤ W.heap.size)
    (h : ∀ v' w', OwnW base w' v' (qs ++ [p]) → Only (fun b => v.ownBlock = some b) W w' → wpList Tryd.prog ops Q rest (a.put o.dst v') w') :
    wpList Tryd.prog ops Q (o :: rest) a (W.alloc (.cells #[.string p] 9)) := by
  obtain ⟨i0, hi, hz0, hz1, hz2⟩ := info_parts info_string
  exact app1L s x 70 base 9 i0 _ 1 16 Tryd.underlying70 hi hz0 hz1 hz2 rfl (by decide) (by decide) W v qs.length (scells qs) _ rfl rfl ho hgd hs hx hown hn hbase
    (fun v' w' h1 h2 => h v' w' (by unfold OwnW; simpa [scells] using h1) h2)

def spl (c : UInt8) : List UInt8 → List (List UInt8)
  | [] => [[]]
  | x :: r => if x = c then [] :: spl c r else match spl c r with
    | [] => [[x]]
    | h :: t => (x :: h) :: t
theorem spl_ne (c : UInt8) : ∀ l, spl c l ≠ []
  | [] => by simp [spl]
  | x :: r => by
    unfold spl
    split
    · simp
    · split <;> simp
theorem spl_none {c : UInt8} : ∀ {a : List UInt8}, (∀ x ∈ a, x ≠ c) → spl c a = [a]
  | [], _ => rfl
  | x :: r, h => by
    rw [spl, if_neg (h x (List.mem_cons_self ..)), spl_none (fun y hy => h y (List.mem_cons_of_mem _ hy))]
theorem spl_app {c : UInt8} : ∀ {a b : List UInt8}, (∀ x ∈ a, x ≠ c) → spl c (a ++ c :: b) = a :: spl c b
  | [], b, _ => by simp [spl]
  | x :: r, b, h => by
    rw [List.cons_append, spl, if_neg (h x (List.mem_cons_self ..)), spl_app (fun y hy => h y (List.mem_cons_of_mem _ hy))]
/-- the pieces, joined again -/
theorem spl_join (c : UInt8) : ∀ l, Lib.join (spl c l) [c] = l
  | [] => by simp [spl, Lib.join_one]
  | x :: r => by
    have ih := spl_join c r
    have hne := spl_ne c r
    unfold spl
    split
    · rename_i e
      subst e
      cases hs : spl x r with
      | nil => exact absurd hs hne
      | cons h t =>
        rw [hs] at ih
        rw [Lib.join_cons] at ih ⊢
        simp only [Lib.joinTail, List.nil_append, List.singleton_append, List.cons_append, List.map_cons, List.flatten_cons] at ih ⊢
        rw [ih]
    · cases hs : spl c r with
      | nil => exact absurd hs hne
      | cons h t =>
        rw [hs] at ih
        rw [Lib.join_cons] at ih
        show Lib.join ((x :: h) :: t) [c] = x :: r
        rw [Lib.join_cons, List.cons_append, ih]
/-- joined pieces, divided again -/
theorem spl_of_join {c : UInt8} : ∀ {ps : List (List UInt8)}, ps ≠ [] → (∀ p ∈ ps, ∀ x ∈ p, x ≠ c) → spl c (Lib.join ps [c]) = ps
  | [], h, _ => absurd rfl h
  | [p], _, h => by rw [Lib.join_one]; exact spl_none (h p (List.mem_singleton.2 rfl))
  | p :: q :: r, _, h => by
    have ih := spl_of_join (c := c) (ps := q :: r) (by simp) (fun y hy => h y (List.mem_cons_of_mem _ hy))
    rw [Lib.join_cons] at ih ⊢
    simp only [Lib.joinTail, List.nil_append, List.singleton_append, List.cons_append, List.map_cons, List.flatten_cons] at ih ⊢
    rw [spl_app (h p (List.mem_cons_self ..)), ih]

def byteL (s : ByteArray) : List UInt8 := s.data.toList
theorem byteL_len (s : ByteArray) : (byteL s).length = s.size := Array.length_toList
theorem byteAt_L {s : ByteArray} {k : Nat} (h : k < (byteL s).length) : byteAt s k = (((byteL s)[k]).toNat : Int) := by
  unfold byteAt
  have e : s.data.toList.getD k 0 = (byteL s)[k] := by
    show (byteL s).getD k 0 = _
    simp only [List.getD, List.getElem?_eq_getElem h, Option.getD_some]
  rw [e]
theorem extract_L (s : ByteArray) (i j : Nat) : s.extract i j = str (((byteL s).take j).drop i) := by
  apply ByteArray.ext
  rw [ByteArray.data_extract]
  apply Array.toList_inj.1
  rw [Array.toList_extract]
  simp only [str, byteL, List.extract_eq_take_drop, List.drop_take]
theorem spl_at {l : List UInt8} {c : UInt8} {fr k : Nat} (hf : fr ≤ k) (hk : k < l.length) (hno : ∀ j, fr ≤ j → (hj : j < k) → l[j] ≠ c) (he : l[k] = c) : spl c (l.drop fr) = ((l.take k).drop fr) :: spl c (l.drop (k + 1)) := by
  have e : l.drop fr = ((l.take k).drop fr) ++ c :: l.drop (k + 1) := by
    rw [← he]
    conv => lhs; rw [← List.take_append_drop k l, List.drop_append_of_le_length (by rw [List.length_take]; omega), List.drop_eq_getElem_cons hk]
  rw [e]
  exact spl_app (fun x hx => by
    obtain ⟨j, hj, rfl⟩ := List.getElem_of_mem hx
    rw [List.length_drop, List.length_take] at hj
    rw [List.getElem_drop, List.getElem_take]
    exact hno (fr + j) (by omega) (by omega))
theorem spl_end {l : List UInt8} {c : UInt8} {fr : Nat} (hno : ∀ j, fr ≤ j → (hj : j < l.length) → l[j] ≠ c) : spl c (l.drop fr) = [l.drop fr] :=
  spl_none (fun x hx => by
    obtain ⟨j, hj, rfl⟩ := List.getElem_of_mem hx
    rw [List.length_drop] at hj
    rw [List.getElem_drop]
    exact hno (fr + j) (by omega) (by omega))

set_option maxRecDepth 1000000 in
set_option maxHeartbeats 3200000 in
theorem l01Split_c (s : ByteArray) (c : UInt8) (w : World) (hs : s.size ≤ 2000000) : Calls Tryd.prog 40 #[.string s, .int .u8 (c.toNat : Int)] w (fun e w' => ∃ v, e = .returned v ∧ OwnW w.heap.size w' v ((spl c (byteL s)).map str) ∧ Below w.heap.size w w') := by
  have hbl := byteL_len s
  have hat := fun k (h : k < (byteL s).length) => byteAt_L h
  have hsp := fun (fr k : Nat) hf (hk : k < (byteL s).length) hno he => spl_at (l := byteL s) (c := c) (fr := fr) (k := k) hf hk hno he
  have hse := fun (fr : Nat) hno => spl_end (l := byteL s) (c := c) (fr := fr) hno
  have hex := fun i j => extract_L s i j
  have hlen : ∀ fr, (spl c ((byteL s).drop fr)).length ≤ s.size + 1 := by
    have : ∀ l : List UInt8, (spl c l).length ≤ l.length + 1 := by
      intro l
      induction l with
      | nil => simp [spl]
      | cons x r ih =>
        unfold spl
        split
        · simp; omega
        · split
          · simp
          · rename_i h t e; rw [e] at ih; simp at ih ⊢; omega
    intro fr
    have := this ((byteL s).drop fr)
    rw [List.length_drop] at this
    omega
  have hends : s.extract = fun i j => s.extract i j := rfl
  generalize byteL s = L at *
  obtain ⟨out, hout⟩ : ∃ x, x = (spl c L).map str := ⟨_, rfl⟩
  rw [← hout]
  have hst0 : ([] : List ByteArray) ++ (spl c (L.drop 0)).map str = out := by rw [hout]; rfl
  have HAT := Lib.hid hat; clear hat
  have HSP := Lib.hid hsp; clear hsp
  have HSE := Lib.hid hse; clear hse
  have HEX := Lib.hid hex; clear hex
  have HST := Lib.hid hst0; clear hst0
  have HBL := Lib.hid hbl; clear hbl
  have HLEN := Lib.hid hlen; clear hlen
  clear hout hends
  go_enter Tryd.func40, Tryd.ntmps40
  go_wp2_with fail
  go_loopw [7, 6, 5] (fun i f o wr => ∃ (k fr : Nat) (ds : List ByteArray), k ≤ s.size ∧ i = .int .i64 k ∧ f = .int .i64 fr ∧ fr ≤ k ∧ OwnW w.heap.size wr o ds ∧ ds ++ (spl c (L.drop fr)).map str = out ∧ (∀ j, fr ≤ j → (h : j < L.length) → j < k → L[j] ≠ c) ∧ ds.length ≤ k ∧ Below w.heap.size w wr) (fun i _ _ _ => s.size - (intOf i).toNat)
  case atStart => exact ⟨0, 0, [], Nat.zero_le _, rfl, rfl, Nat.le_refl _, own_empty _ _ _ _ (Nat.le_refl _), HST.out, fun j _ _ h => absurd h (by omega), Nat.le_refl _, by go_grown⟩
  case round =>
    obtain ⟨k, fr, ds, hk, rfl, rfl, hf, ho, hq, hno, hdl, hb⟩ := hrel
    have hlo := own_lo ho
    obtain ⟨au, pu, hu⟩ := own_shape ho
    subst hu
    have HO := Lib.hid ho; clear ho
    have LO := Lib.hid hlo; clear hlo
    have HQ := Lib.hid hq; clear hq
    have hL := HBL.out
    by_cases hlt : k < s.size
    · have hltL : k < L.length := by omega
      have hix := ixs hlt k rfl
      rw [HAT.out k hltL] at hix
      by_cases he : L[k] = c
      · have hc : (((L[k]).toNat : Int) == (c.toNat : Int)) = true := by rw [he]; simp
        have hsp := HSP.out fr k hf hltL (fun j h1 h2 => hno j h1 (by omega) h2) he
        have hx := HEX.out fr k
        generalize L[k] = x at *
        have HNO := Lib.hid hno; clear hno
        have HE := Lib.hid he; clear he
        have HL := Lib.hid hL; clear hL
        have hfin : ∀ W v' w', Below wr.heap.size wr W → OwnW w.heap.size w' v' (ds ++ [s.extract fr k]) → Only (fun b => (Value.slice au ds.length pu).ownBlock = some b) W w' → OwnW w.heap.size w' v' (ds ++ [s.extract fr k]) ∧ (ds ++ [s.extract fr k]) ++ (spl c (L.drop (k + 1))).map str = out ∧ Below w.heap.size w w' := fun W v' w' hW o q =>
          ⟨o, by rw [← HQ.out, hsp, List.map_cons, hx, List.append_assoc]; rfl, Only.below (hb.trans (hW.mono hb.size)) q (Nat.le_trans hb.size hW.size) (fun b e => LO.out b e)⟩
        have z0 : w.heap.size ≤ wr.heap.size := hb.size
        have HFIN := Lib.hid hfin; clear hfin
        clear hsp hx hltL
        go_wp2_with (at_builtin; refine app_WL (.tmp 20) (.tmp 25) _ _ _ _ _ (by rfl) (by rfl) (by rfl) (by rfl) HO.out (by omega) z0 ?_; intro v2 w9 o9 q9)
        have hf := HFIN.out wr v2 w9 (Below.refl _ _) o9 q9
        clear o9 q9
        exact ⟨⟨k + 1, k + 1, ds ++ [s.extract fr k], by omega, by go_num, by go_num, Nat.le_refl _, hf.1, hf.2.1, fun j h1 _ h3 => absurd h1 (by omega), by simp; omega, hf.2.2⟩, by simp [intOf]; omega⟩
      · have hc : (((L[k]).toNat : Int) == (c.toNat : Int)) = false := beq_eq_false_iff_ne.2 (fun e => he (UInt8.toNat_inj.1 (by exact_mod_cast e)))
        have hno2 : ∀ (j : Nat), fr ≤ j → ∀ (h : j < L.length), j < k + 1 → L[j] ≠ c := fun j h1 h h3 => by
          rcases Nat.lt_or_ge j k with h4 | h4
          · exact hno j h1 h h4
          · obtain rfl : j = k := by omega
            exact he
        generalize L[k] = x at *
        have HNO := Lib.hid hno; clear hno
        have HNO2 := Lib.hid hno2; clear hno2
        have HE := Lib.hid he; clear he
        have HL := Lib.hid hL; clear hL
        clear hltL
        go_wp2
        first
          | exact ⟨⟨k + 1, fr, ds, by omega, by go_num, rfl, by omega, HO.out, HQ.out, HNO2.out, by omega, hb⟩, by simp [intOf]; omega⟩
          | (go_roundw
             case rel => exact ⟨k + 1, fr, ds, by omega, by go_num, rfl, by omega, HO.out, HQ.out, HNO2.out, by omega, hb⟩
             case measure => simp [intOf]; omega)
    · obtain rfl : k = s.size := by omega
      have hse := HSE.out fr (fun j h1 h2 => hno j h1 h2 (by omega))
      have hx := HEX.out fr s.size
      rw [List.take_of_length_le (by omega)] at hx
      have hfin : ∀ v' w', OwnW w.heap.size w' v' (ds ++ [s.extract fr s.size]) → Only (fun b => (Value.slice au ds.length pu).ownBlock = some b) wr w' → OwnW w.heap.size w' v' out ∧ Below w.heap.size w w' := fun v' w' o q =>
        ⟨by rw [← HQ.out, hse, List.map_cons, List.map_nil, ← hx]; exact o, Only.below hb q hb.size (fun b e => LO.out b e)⟩
      have z0 : w.heap.size ≤ wr.heap.size := hb.size
      have HNO := Lib.hid hno; clear hno
      have HL := Lib.hid hL; clear hL
      have HFIN := Lib.hid hfin; clear hfin
      clear hse hx
      go_wp2_with (at_builtin; refine app_WL (.tmp 29) (.tmp 33) _ _ _ _ _ (by rfl) (by rfl) (by rfl) (by rfl) HO.out (by omega) z0 ?_; intro v2 w9 o9 q9)
      have hf := HFIN.out v2 w9 o9 q9
      clear o9 q9
      first
        | exact ⟨_, rfl, hf.1, hf.2⟩
        | (go_returns
           exact ⟨_, rfl, hf.1, hf.2⟩)

end Go.Proofs.YtgdadbmhdljcdaaDoor
