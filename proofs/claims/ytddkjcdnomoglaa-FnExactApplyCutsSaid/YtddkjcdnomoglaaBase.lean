/- The forms of the contracts, and small facts that every walk wants. -/
import Derived.Test.YtddkjcdnomoglaaRows
import Derived.WalkKit
import Derived.WalkSpells
import Derived.WalkLawsBesides
import Derived.Deep.QuietTactic
import Derived.BigQuiet
namespace Go.Proofs.Bell
set_option linter.unusedVariables false
open Go.RowKit

/-- it returns `v`; the world is the same -/
def RetS (v : Value) (w : World) (e : Ending) (w' : World) : Prop := e = .returned v ∧ w = w'
/-- it returns `v`; the world has drawn -/
def RetD (v : Value) (w : World) (e : Ending) (w' : World) : Prop := e = .returned v ∧ ∃ n, w' = w.drewN n
/-- it returns `v`; what was there reads as before -/
def RetB (v : Value) (w : World) (e : Ending) (w' : World) : Prop := e = .returned v ∧ Below w.heap.size w w'

theorem RetS.mk {v v' : Value} {w : World} (h : v' = v) : RetS v w (.returned v') w := ⟨by rw [h], rfl⟩
theorem RetD.mk {v v' : Value} {w w' : World} (h : v' = v) (hw : ∃ n, w' = w.drewN n) : RetD v w (.returned v') w' := ⟨by rw [h], hw⟩
theorem RetB.mk {v v' : Value} {w w' : World} (h : v' = v) (hw : Below w.heap.size w w') : RetB v w (.returned v') w' := ⟨by rw [h], hw⟩

/-- a world that has drawn, and no more -/
def Dr (w w' : World) : Prop := ∃ n, w' = w.drewN n
theorem Dr.refl (w : World) : Dr w w := ⟨0, rfl⟩
theorem Dr.next {w w' : World} (h : Dr w w') (n : Nat) : Dr w (w'.drewN n) := by obtain ⟨m, rfl⟩ := h; exact ⟨_, World.drewN_drewN _ _ _⟩
theorem Dr.trans {a b c : World} (h : Dr a b) (h' : Dr b c) : Dr a c := by obtain ⟨m, rfl⟩ := h'; exact h.next m
theorem Dr.below {w w' : World} (h : Dr w w') : Below w.heap.size w w' := by obtain ⟨n, rfl⟩ := h; exact below_drewN (Below.refl _ _) n

/-- such callees in a region that draws its order -/
theorem quietS {P : Program} {f : FuncId} {args : Array Value} {w : World} {n : Nat} {v : Value} (h : Calls P f args (w.drewN n) (RetS v (w.drewN n))) : Calls P f args (w.drewN n) fun e w'' => e = .returned v ∧ ∃ m, w'' = w.drewN m :=
  Calls.quiet_of_same (h.mono fun _ _ h => ⟨h.1, h.2.symm⟩)
theorem quietD {P : Program} {f : FuncId} {args : Array Value} {w : World} {n : Nat} {v : Value} (h : Calls P f args (w.drewN n) (RetD v (w.drewN n))) : Calls P f args (w.drewN n) fun e w'' => e = .returned v ∧ ∃ m, w'' = w.drewN m :=
  Calls.quiet_of (h.mono fun _ _ h => ⟨h.1, h.2⟩)

theorem int_eq {a b : Int} (h : a = b) : Value.int .i64 a = .int .i64 b := by rw [h]
theorem bool_eq {a b : Bool} (h : a = b) : Value.bool a = .bool b := by rw [h]
theorem ints_eq {a b c d : Int} (h : a = c) (h' : b = d) : Value.tuple #[.int .i64 a, .int .i64 b] = .tuple #[.int .i64 c, .int .i64 d] := by rw [h, h']

end Go.Proofs.Bell
