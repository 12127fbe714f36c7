/- What the readers ask of a world: the library's table, and what three of its variables hold. -/
import Derived.Test.YtgdadbmhdljcdaaGreatDoorTA
import Derived.Test.YtgdadbmhdljcdaaGreatDoorTH
import Derived.Test.YtgdadbmhdljcdaaGreatDoorTxtX2
import Derived.Test.YtgdadbmhdljcdaaGreatDoorWO
namespace Go.Proofs.YtgdadbmhdljcdaaGreatDoor
set_option linter.unusedVariables false
open Go.RowKit Go.Proofs.Bell Go.BigFrame

theorem str_inj {a b : List UInt8} (h : str a = str b) : a = b := by
  have := congrArg (fun x : ByteArray => x.data.toList) h
  simpa [str] using this
theorem byteL_str (l : List UInt8) : byteL (str l) = l := by simp [byteL, str]
theorem str_byteL (s : ByteArray) : str (byteL s) = s := str_toList' s
theorem toL_eq (a b : ByteArray) : (a.toList == b.toList) = decide (a = b) := by
  rw [ByteArray.toList_eq, ByteArray.toList_eq]
  by_cases h : a = b
  · subst h; simp
  · rw [decide_eq_false h, beq_eq_false_iff_ne]
    intro e
    exact h (by rw [← str_toList' a, ← str_toList' b, e])
theorem dash_no {s : ByteArray} (h : s ≠ ⟨#[45]⟩) : (s.toList == [45]) = false := by
  have h2 := toL_eq s ⟨#[45]⟩
  rw [decide_eq_false h, ByteArray.toList_eq ⟨#[45]⟩] at h2
  exact h2
def IsIf (v : Value) : Prop := v = .nilIface ∨ ∃ te pe, v = .iface te pe
def RTab (w : World) : Prop := Tab w ∧ (∃ m, w.cell? ⟨0, 0, none⟩ = some (.int .i64 m)) ∧ (∃ v, w.cell? ⟨1, 0, none⟩ = some v ∧ IsIf v) ∧ ∃ v, w.cell? ⟨2, 0, none⟩ = some v ∧ IsIf v
theorem RTab.later {w w1 : World} (h : RTab w) (hb : Below w.heap.size w w1) : RTab w1 := by
  obtain ⟨h1, ⟨m, h2⟩, ⟨v, h3, h4⟩, u, h5, h6⟩ := h
  exact ⟨h1.later hb, ⟨m, below_cell hb h2⟩, ⟨v, below_cell hb h3, h4⟩, u, below_cell hb h5, h6⟩
theorem parse_bd {l : List UInt8} {z : Int} (h : Lib.parseIntB 64 l = .ok z) : -9223372036854775808 ≤ z ∧ z ≤ 9223372036854775807 := by
  unfold Lib.parseIntB at h
  split at h
  · cases h
  · simp only at h
    split at h
    · cases h
    · cases h
    · split at h
      · cases h
      · split at h
        · cases h
        · injection h with h
          split at h <;> omega
/-- strings.Split, the world's variable found -/
theorem SplitR_c (s : ByteArray) (c : UInt8) (w : World) (hs : s.size ≤ 2000000) (hr : RTab w) :
    Calls Tryz.prog 43 #[.string s, .string ⟨#[c]⟩] w (fun e w' => ∃ v, e = .returned v ∧ OwnW w.heap.size w' v ((spl c (byteL s)).map str) ∧ Below w.heap.size w w') := by
  obtain ⟨_, ⟨m, hm⟩, _⟩ := hr
  exact Split_c s c m w hs hm
def ParseR (s : ByteArray) (w : World) (e : Ending) (w' : World) : Prop :=
  (∃ n x, e = .returned (.tuple #[.int .i64 n, x]) ∧ ((Lib.parseIntB 64 (byteL s) = .ok n ∧ x = .nilIface) ∨ ((∀ v, Lib.parseIntB 64 (byteL s) ≠ .ok v) ∧ ∃ t p, x = .iface t p))) ∧ Below w.heap.size w w'
theorem Parse_c (s : ByteArray) (w : World) (hs : s.size ≤ 2000000) (hr : RTab w) : Calls Tryz.prog 104 #[.string s, .int .i64 10, .int .i64 64] w (ParseR s w) := by
  obtain ⟨_, _, ⟨v, h3, h4⟩, u, h5, h6⟩ := hr
  exact Tryz.strconv_ParseInt_all s (by omega) v u w h3 h4 h5 h6
theorem numF_of_parse {l : List UInt8} {z : Int} (h : Lib.parseIntB 64 l = .ok z) (hl : (unsg l).length ≤ 18) : numF l = if Lib.itoa z = l then some z else none := by
  split
  · rename_i e; exact num_of_text e hl (parse_bd h)
  · rename_i e
    cases hn : numF l with
    | none => rfl
    | some y =>
      have h1 := parse_of_num hn
      rw [h] at h1
      injection h1 with h1
      exact absurd (h1 ▸ (numF_some hn).2) e
theorem numF_no_parse {l : List UInt8} (h : ∀ v, Lib.parseIntB 64 l ≠ .ok v) : numF l = none := by
  cases hn : numF l with
  | none => rfl
  | some y => exact absurd (parse_of_num hn) (h y)

end Go.Proofs.YtgdadbmhdljcdaaGreatDoor
