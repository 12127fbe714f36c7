/- Lists of profiles of one's own; a family (the program). -/
import Derived.Test.YtmeeibcbhjifbaaRgL
import Derived.Test.YtmeeibcbhjifbaaSSApp
import Derived.Test.YtmeeibcbhjifbaaScaleP
import Derived.Test.YtmeeibcbhjifbaaScaled
namespace Go.Proofs.Ytmeeibcbhjifbaa
set_option linter.unusedVariables false
open Go.RowKit Go.Proofs.Bell Go.BigFrame

abbrev PR := ByteArray × List (Int × Int × Int)
def nd : ByteArray × Value := (⟨#[]⟩, .slice none 0 0)
def pcells (us : List (ByteArray × Value)) : List Value := us.flatMap fun p => [.string p.1, p.2]
theorem pcells_len (us : List (ByteArray × Value)) : (pcells us).length = us.length * 2 := by induction us with
  | nil => rfl
  | cons p us ih => have : pcells (p :: us) = [.string p.1, p.2] ++ pcells us := rfl
                    rw [this, List.length_append, ih]; simp; omega
theorem pcells_at {us : List (ByteArray × Value)} : ∀ {k : Nat} (h : k < us.length), (pcells us)[k * 2]? = some (.string (us.getD k nd).1) ∧ (pcells us)[k * 2 + 1]? = some (us.getD k nd).2 := by
  induction us with
  | nil => intro k h; simp at h
  | cons p us ih =>
    intro k h
    cases k with
    | zero => simp [pcells]
    | succ k =>
      have := ih (k := k) (by simpa using h)
      have e1 : (k + 1) * 2 = k * 2 + 1 + 1 := by omega
      simpa [pcells, e1] using this
theorem cells_PS : Try.prog.cellsOf 31 = 2 := by kernel_rfl
theorem has_PS : (Try.prog.info? 31).isSome = true := by kernel_rfl
theorem info_PS : (Try.prog.info? 31).map (fun i => (i.zero, i.size, i.bytes)) = some (some (.agg #[.string ⟨#[]⟩, .slice none 0 0]), 2, 40) := by kernel_rfl

/-- a list of profiles of one's own: names and values are `us`; all blocks lie from `lo` to `hi` -/
structure OwnPS (lo hi : Nat) (w : World) (v : Value) (us : List (ByteArray × Value)) (ps : List PR) : Prop where
  len : us.length = ps.length
  row : w.ownsRow lo 31 2 v ps.length (pcells us)
  rowh : ∀ b, v.ownBlock = some b → b < hi
  nm : ∀ k, k < ps.length → (us.getD k nd).1 = (ps.getD k (⟨#[]⟩, [])).1
  own : ∀ k, k < ps.length → OwnR lo w (us.getD k nd).2 (ps.getD k (⟨#[]⟩, [])).2
  top : ∀ k, k < ps.length → ∀ b, (us.getD k nd).2.ownBlock = some b → b < hi
  dis : ∀ j k, j < k → k < ps.length → ∀ b, (us.getD k nd).2.ownBlock = some b → (us.getD j nd).2.ownBlock ≠ some b
  cd : ∀ k, k < ps.length → ∀ b, (us.getD k nd).2.ownBlock = some b → v.ownBlock ≠ some b
theorem OwnPS.later {lo hi : Nat} {w w' : World} {v : Value} {us : List (ByteArray × Value)} {ps : List PR} (h : OwnPS lo hi w v us ps) (hb : Below w.heap.size w w') : OwnPS lo hi w' v us ps :=
  ⟨h.len, own_later h.row hb, h.rowh, h.nm, fun k hk => own_later (h.own k hk) hb, h.top, h.dis, h.cd⟩
theorem OwnPS.wide {lo hi lo' hi' : Nat} {w : World} {v : Value} {us : List (ByteArray × Value)} {ps : List PR} (h : OwnPS lo hi w v us ps) (h1 : lo' ≤ lo) (h2 : hi ≤ hi') : OwnPS lo' hi' w v us ps :=
  ⟨h.len, own_base h.row h1, fun b hb => Nat.lt_of_lt_of_le (h.rowh b hb) h2, h.nm, fun k hk => own_base (h.own k hk) h1, fun k hk b hb => Nat.lt_of_lt_of_le (h.top k hk b hb) h2, h.dis, h.cd⟩
theorem OwnPS.nil (lo hi : Nat) (w : World) : OwnPS lo hi w (.slice none 0 0) [] [] :=
  ⟨rfl, World.ownsRow_nil _ _ _ _, fun b h => (by cases h), fun k hk => absurd hk (by simp), fun k hk => absurd hk (by simp), fun k hk => absurd hk (by simp), fun j k _ hk => absurd hk (by simp), fun k hk => absurd hk (by simp)⟩

theorem app_PS {ops : Array Oper} {rest : List Oper} {o : Oper} {a : Act} {Q : Exit → Act → World → Prop} (s x : Operand) (W : World) (base : Nat) (v : Value) (n : Nat) (us : List (ByteArray × Value)) (nm : ByteArray) (ao : Option Addr) (m cap g : Nat) (hg : W.heap.size = g)
    (ho : o.op = .call { callee := .builtin .append, args := #[s, x], argTypes := #[26, 26] }) (hgd : o.guard = none)
    (hs : a.eval s = v) (hx : a.eval x = .slice (some ⟨g, 0, none⟩) 1 1) (hown : W.ownsRow base 31 2 v n (pcells us)) (hn : n ≤ 1000000) (hbase : base ≤ W.heap.size)
    (h : ∀ v' w', w'.ownsRow base 31 2 v' (n + 1) (pcells (us ++ [(nm, .slice ao m cap)])) → Only (fun b => v.ownBlock = some b) W w' → (∀ b, v'.ownBlock = some b → v.ownBlock = some b ∨ W.heap.size ≤ b) → wpList Try.prog ops Q rest (a.put o.dst v') w') :
    wpList Try.prog ops Q (o :: rest) a (W.alloc (.cells #[.string nm, .slice ao m cap] 31)) := by
  subst hg
  obtain ⟨i0, hi, hz0, hz1, hz2⟩ := info_parts info_PS
  refine wpList_append_own_at _ hgd s x 26 ho base 31 i0 _ 2 40 Try.underlying26 hi hz0 hz1 hz2 rfl (by decide) v n (pcells us) hs (hown.alloc _) ⟨W.heap.size, 0, none⟩ 1 1 [.string nm, .slice ao m cap] hx rfl (World.news_of_block (cs := #[.string nm, .slice ao m cap]) (heap_alloc_new W _)) (fun u hu => by simp at hu; rcases hu with rfl | rfl <;> rfl) (by unfold maxLen; omega) (by omega) (by simp; omega) ?_
  intro v' w' ho' hg _ hat
  refine h v' w' (by simpa [pcells] using ho') ((Only.of_below ((Below.refl _ _).alloc (Nat.le_refl _) _)).trans (Only.of_grown hg)) (fun b hb => ?_)
  rcases hat with e | e
  · left; rw [← e]; exact hb
  · right; rw [e] at hb; simp at hb; omega

theorem OwnPS.snoc {lo hi : Nat} {W w' : World} {v v' u : Value} {us : List (ByteArray × Value)} {ps : List PR} {nm : ByteArray} {row : List (Int × Int × Int)} (h : OwnPS lo hi W v us ps) (hhi : hi ≤ W.heap.size) (hlh : lo ≤ hi)
    (hu : OwnR hi W u row) (ho : w'.ownsRow lo 31 2 v' (ps.length + 1) (pcells (us ++ [(nm, u)]))) (hq : Only (fun b => v.ownBlock = some b) W w') (hat : ∀ b, v'.ownBlock = some b → v.ownBlock = some b ∨ W.heap.size ≤ b) :
    OwnPS lo w'.heap.size w' v' (us ++ [(nm, u)]) (ps ++ [(nm, row)]) := by
  have hsz := hq.size
  have hl := h.len
  have gl : ∀ j, j < ps.length → (us ++ [(nm, u)]).getD j nd = us.getD j nd := fun j hj => by simp [List.getD, List.getElem?_append_left (show j < us.length by omega)]
  have gr : (us ++ [(nm, u)]).getD ps.length nd = (nm, u) := by rw [← hl]; simp [List.getD]
  have wl : ∀ j, j < ps.length → (ps ++ [(nm, row)]).getD j (⟨#[]⟩, []) = ps.getD j (⟨#[]⟩, []) := fun j hj => by simp [List.getD, List.getElem?_append_left hj]
  have wr : (ps ++ [(nm, row)]).getD ps.length (⟨#[]⟩, []) = (nm, row) := by simp [List.getD]
  have hown : ∀ k, k < (ps ++ [(nm, row)]).length → OwnR lo w' ((us ++ [(nm, u)]).getD k nd).2 ((ps ++ [(nm, row)]).getD k (⟨#[]⟩, [])).2 := fun k hk => by
    simp only [List.length_append, List.length_cons, List.length_nil] at hk
    rcases Nat.lt_or_ge k ps.length with h1 | h1
    · rw [gl k h1, wl k h1]; exact own_only (h.own k h1) hq (fun b hb hS => h.cd k h1 b hb hS)
    · obtain rfl : k = ps.length := by omega
      rw [gr, wr]
      exact own_base (own_only hu hq (fun b hb hS => by have := own_lo hu b hb; have := h.rowh b hS; omega)) hlh
  refine ⟨by simp [hl], by simpa using ho, own_lt ho, fun k hk => ?_, hown, fun k hk => own_lt (hown k hk), fun j k hj hk b hb => ?_, fun k hk b hb hv => ?_⟩
  · simp only [List.length_append, List.length_cons, List.length_nil] at hk
    rcases Nat.lt_or_ge k ps.length with h1 | h1
    · rw [gl k h1, wl k h1]; exact h.nm k h1
    · obtain rfl : k = ps.length := by omega
      rw [gr, wr]
  · simp only [List.length_append, List.length_cons, List.length_nil] at hk
    rw [gl j (by omega)]
    rcases Nat.lt_or_ge k ps.length with h1 | h1
    · rw [gl k h1] at hb; exact h.dis j k hj h1 b hb
    · obtain rfl : k = ps.length := by omega
      rw [gr] at hb
      intro e
      have h2 := own_lo hu b hb
      have h3 := h.top j hj b e
      omega
  · simp only [List.length_append, List.length_cons, List.length_nil] at hk
    rcases Nat.lt_or_ge k ps.length with h1 | h1
    · rw [gl k h1] at hb
      rcases hat b hv with e | e
      · exact h.cd k h1 b hb e
      · have := h.top k h1 b hb; omega
    · obtain rfl : k = ps.length := by omega
      rw [gr] at hb
      have h2 := own_lo hu b hb
      have h3 := own_lt hu b hb
      rcases hat b hv with e | e
      · have := h.rowh b e; omega
      · omega

def famR (num den : Int) (rs : List (Int × Int × Int)) : Nat → List (Int × Int × Int)
  | 0 => rs
  | j + 1 => mapK (scT num den) (famR num den rs j) (famR num den rs j).length
def famL (nm : ByteArray) (num den : Int) (rs : List (Int × Int × Int)) (j : Nat) : List PR := (List.range j).map fun i => (nm, famR num den rs i)
theorem famL_len (nm : ByteArray) (num den : Int) (rs : List (Int × Int × Int)) (j : Nat) : (famL nm num den rs j).length = j := by simp [famL]
theorem famL_at (nm : ByteArray) (num den : Int) (rs : List (Int × Int × Int)) {j k : Nat} (h : k < j) : (famL nm num den rs j).getD k (⟨#[]⟩, []) = (nm, famR num den rs k) := by simp [famL, List.getD, h]
theorem famL_step (nm : ByteArray) (num den : Int) (rs : List (Int × Int × Int)) (j : Nat) : famL nm num den rs (j + 1) = famL nm num den rs j ++ [(nm, famR num den rs j)] := by simp [famL, List.range_succ]
def famOk (nm : ByteArray) (num den : Int) (rs : List (Int × Int × Int)) (c : Nat) : Bool := (List.range c).all fun j => profB nm (famR num den rs j)
def RetPS2 (ps : List PR) (code : Value) (w : World) (e : Ending) (w' : World) : Prop := ∃ v us, e = .returned (.tuple #[v, code]) ∧ OwnPS w.heap.size w'.heap.size w' v us ps ∧ Below w.heap.size w w'
def famV (nm : ByteArray) (num den : Int) (rs : List (Int × Int × Int)) (c : Nat) : List PR × Int := if famOk nm num den rs c then (famL nm num den rs c, 0) else ([], 6)

end Go.Proofs.Ytmeeibcbhjifbaa
