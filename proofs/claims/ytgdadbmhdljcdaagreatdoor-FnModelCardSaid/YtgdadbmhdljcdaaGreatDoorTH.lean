/- Several texts of the proofs in one: Txt1, Txt2. -/
import Derived.Test.YtgdadbmhdljcdaaGreatDoorGA
import Derived.Test.YtgdadbmhdljcdaaGreatDoorTxtM
import Derived.Test.YtgdadbmhdljcdaaGreatDoorWO
import Derived.Lib.Hide
import Derived.Lib.Join
/- Numbers as texts: the reference and the program. -/
namespace Go.Proofs.YtgdadbmhdljcdaaGreatDoor
set_option linter.unusedVariables false
open Go.RowKit Go.Proofs.Bell Go.BigFrame

/-- the library's table reads as it should, in every later world -/
def Tab (w : World) : Prop := ∀ w', Below w.heap.size w w' → Lib.TabIs Tryz.prog w' "internal/strconv.uint64pow10" .u64 Lib.pow10Tab
theorem Tab.later {w w1 : World} (h : Tab w) (hb : Below w.heap.size w w1) : Tab w1 := fun w' h' => h w' (hb.trans (h'.mono hb.size))
theorem Tab.below {w w1 w2 : World} (h : Tab w) (hb : Below w.heap.size w w1) : Tab w1 := h.later hb

theorem grow_below (os : Array Obj) (w : World) : Below w.heap.size w (Sort.grow w os) :=
  ⟨rfl, rfl, rfl, by simp [Sort.grow], fun k hk => by simp only [Sort.grow]; exact Array.getElem?_append_left hk⟩

set_option maxHeartbeats 800000 in
theorem Decimal_c (n : Int) (h0 : -9223372036854775808 ≤ n) (h1 : n ≤ 9223372036854775807) (w : World) (ht : Tab w) : Calls Tryz.prog 46 #[.int .i64 n] w (RetB (.string (decB n)) w) := by
  have hf := Tryz.strconv_FormatInt_10 n h0 h1 w (ht w (Below.refl _ _))
  have HF := Lib.hid hf; clear hf
  unfold decB
  generalize (Lib.itoa n).toArray = r at *
  go_enter Tryz.func46, Tryz.ntmps46
  go_wp2_with fail
  refine HF.out.mono ?_
  rintro _ w1 ⟨rfl, k, os, rfl⟩
  go_wp2
  go_returns
  exact RetB.mk rfl (Below.trans (below_drewN (Below.refl _ _) k) ((grow_below os _).mono (Nat.le_of_eq rfl)))

end Go.Proofs.YtgdadbmhdljcdaaGreatDoor

/- Texts put together: the plain words, and lists of texts of one's own. -/
namespace Go.Proofs.YtgdadbmhdljcdaaGreatDoor
set_option linter.unusedVariables false
open Go.RowKit Go.Proofs.Bell Go.BigFrame

def str (l : List UInt8) : ByteArray := ⟨l.toArray⟩
theorem str_app (a b : List UInt8) : str a ++ str b = str (a ++ b) := by
  simp [str, ByteArray.append_eq]
  rfl
theorem str_size (l : List UInt8) : (str l).size = l.length := by simp [str, ByteArray.size]
theorem decB_str (n : Int) : decB n = str (Lib.itoa n) := rfl
theorem join_snoc (xs : List (List UInt8)) (y sep : List UInt8) : Lib.join (xs ++ [y]) sep = if xs = [] then y else Lib.join xs sep ++ sep ++ y := by
  cases xs with
  | nil => simp [Lib.join_one]
  | cons x r =>
    rw [List.cons_append, Lib.join_cons, Lib.join_cons, if_neg (by simp)]
    simp [Lib.joinTail]
def scells (ss : List ByteArray) : List Value := ss.map .string
theorem scells_at {ss : List ByteArray} {k : Nat} (h : k < ss.length) : (scells ss)[k]? = some (.string (ss.getD k ⟨#[]⟩)) := by simp [scells, List.getD, h]
def OwnW (base : Nat) (w : World) (v : Value) (ss : List ByteArray) : Prop := w.ownsRow base 9 1 v ss.length (scells ss)
theorem info_string : (Tryz.prog.info? 9).map (fun i => (i.zero, i.size, i.bytes)) = some (some (.string ⟨#[]⟩), 1, 16) := by kernel_rfl
theorem app_W {ops : Array Oper} {rest : List Oper} {o : Oper} {a : Act} {Q : Exit → Act → World → Prop} (s x : Operand) (W : World) (base : Nat) (v : Value) (qs : List ByteArray) (p : ByteArray)
    (ho : o.op = .call { callee := .builtin .append, args := #[s, x], argTypes := #[80, 80] }) (hgd : o.guard = none)
    (hs : a.eval s = v) (hx : a.eval x = .slice (some ⟨W.heap.size, 0, none⟩) 1 1) (hown : OwnW base W v qs) (hn : qs.length ≤ 1000000) (hbase : base ≤ W.heap.size)
    (h : ∀ v' w', OwnW base w' v' (qs ++ [p]) → Only (fun b => v.ownBlock = some b) W w' → wpList Tryz.prog ops Q rest (a.put o.dst v') w') :
    wpList Tryz.prog ops Q (o :: rest) a (W.alloc (.cells #[.string p] 9)) := by
  obtain ⟨i0, hi, hz0, hz1, hz2⟩ := info_parts info_string
  exact app1 s x 80 base 9 i0 _ 1 16 Tryz.underlying80 hi hz0 hz1 hz2 rfl (by decide) (by decide) W v qs.length (scells qs) _ rfl rfl ho hgd hs hx hown hn hbase
    (fun v' w' h1 h2 => h v' w' (by unfold OwnW; simpa [scells] using h1) h2)

/-- a list of texts, joined -/
theorem Join_c (base : Nat) (v : Value) (xs : List (List UInt8)) (sep : ByteArray) (w : World) (ho : OwnW base w v (xs.map str)) (h1 : 1 ≤ xs.length) (hl : xs.length ≤ 1000000) (hlen : (Lib.join xs sep.data.toList).length ≤ 1000000000) :
    Calls Tryz.prog 47 #[v, .string sep] w (RetB (.string (str (Lib.join xs sep.data.toList))) w) := by
  obtain ⟨g, c, rfl, hg1, hg2⟩ := World.ownsRow.form ho (by rw [List.length_map]; exact h1)
  have hm : (xs.map str).map (·.data.toList) = xs := by rw [List.map_map]; conv => rhs; rw [← List.map_id xs]
                                                        apply List.map_congr_left; intro x _; simp [str]
  have hcap : (xs.map str).length ≤ c := by
    obtain ⟨_, h⟩ := ho
    rcases h with ⟨h, _⟩ | ⟨g', cap, cur, hv, _, _, hn, _⟩
    · cases h
    · injection hv with e1 e2 e3; subst e3; exact hn
  have := Tryz.strings_Join g 0 c (xs.map str) sep w (fun j x hx => by
    rw [Nat.zero_add]
    have hj : j < (xs.map str).length := (List.getElem?_eq_some_iff.1 hx).1
    rw [World.ownsRow.cellAt ho j (by omega), scells, List.getElem?_map, hx]; rfl) hg2 (by simp; omega) hcap (by rw [hm]; omega)
  rw [hm] at this
  exact this.mono fun e w' ⟨h1, h2⟩ => ⟨h1, h2⟩

end Go.Proofs.YtgdadbmhdljcdaaGreatDoor

