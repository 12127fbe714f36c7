/-
  No cell of these rows narrows 'for every input' (looked for: loops, veiled, ifaces, maps, wideKeys, modest, calm, conditions, laid).
  DERIVED. THE GIVEN ROWS OF THIS SEAT. 7 by the template 'for every input the law returns true; each argument reads behind the call as it read before'; 0 by the template 'total and deterministic' (their statements: YtpefhgkfgbigbaaTotals.lean).
  GIVEN WITH THE SEED: the statements are not yours to turn. If you find one false, say at which input.
  Laid BY PROGRAM, IN A SANDBOX (cutbox-rows.mjs): the forced cells as the released guide's own fill.sh prints them over the translation 34c0682998884930… (all of the seat's roots in one cut). By AI agents, Wed Nov 11 2026. No macro, syntax, notation, axiom, sorry.
-/
import Derived.Test.YtpefhgkfgbigbaaChecked
import GoSem.Claim
import GoSem.ClaimJoined
import GoSem.ClaimMapViews
import Derived.JoinedTies
import Derived.KernelRfl
namespace Go.Proofs.Ytpefhgkfgbigbaa
/- THE CELL 'sum', in the pinned program and in every row, IS THE sha256 OF THE DUMP (.gsa) THAT YtpefhgkfgbigbaaProg.lean LOADS. Nothing in Lean hashes anything: it is a label: what it is worth is what the hold of that sum in a sandbox is worth. -/
noncomputable def Try.pinned : Pinned := { name := "ytpefhgkfgbigbaa", sum := "34c0682998884930d6f51b3b8e42a09b27ab5cf6bfb14231677301c029ac5a2c", checked := Try.checked }
namespace Rows
def none {H : Type} : Left H := { results := [], args := [] }

/-- 'laws.FnExactValidGoal': WHATEVER THE INPUT: true; the input reads as it did. -/
def fnExactValidGoalSpec : ChangeSpec := { name := "fnExactValidGoal", fn := fun _ => fun
  | [d] => { results := [.lit (.bool true)], args := [d] }
  | _ => none }
def fnExactValidGoalRow : OpenClaim := { program := "ytpefhgkfgbigbaa", sum := "34c0682998884930d6f51b3b8e42a09b27ab5cf6bfb14231677301c029ac5a2c", func := "loop.example/g00952/laws.FnExactValidGoal", spec := "fnExactValidGoal", apart := false }
def FnExactValidGoalSaid : Prop := fnExactValidGoalRow.holds Try.pinned (OpenSpec.ofChange fnExactValidGoalSpec)

/-- ITS FALSE NEIGHBOUR: 'it returns false'. Refute it at one input. -/
def fnExactValidGoalWrong : ChangeSpec := { name := "fnExactValidGoal", fn := fun _ => fun
  | [d] => { results := [.lit (.bool false)], args := [d] }
  | _ => none }
def FnExactValidGoalWrongFalsely : Prop := fnExactValidGoalRow.holds Try.pinned (OpenSpec.ofChange fnExactValidGoalWrong)

/-- 'laws.FnExactPitchAfter': WHATEVER THE INPUT: true; the input reads as it did. -/
def fnExactPitchAfterSpec : ChangeSpec := { name := "fnExactPitchAfter", fn := fun _ => fun
  | [d1, d2, d3] => { results := [.lit (.bool true)], args := [d1, d2, d3] }
  | _ => none }
def fnExactPitchAfterRow : OpenClaim := { program := "ytpefhgkfgbigbaa", sum := "34c0682998884930d6f51b3b8e42a09b27ab5cf6bfb14231677301c029ac5a2c", func := "loop.example/g00952/laws.FnExactPitchAfter", spec := "fnExactPitchAfter", apart := false }
def FnExactPitchAfterSaid : Prop := fnExactPitchAfterRow.holds Try.pinned (OpenSpec.ofChange fnExactPitchAfterSpec)

/-- ITS FALSE NEIGHBOUR: 'it returns false'. Refute it at one input. -/
def fnExactPitchAfterWrong : ChangeSpec := { name := "fnExactPitchAfter", fn := fun _ => fun
  | [d1, d2, d3] => { results := [.lit (.bool false)], args := [d1, d2, d3] }
  | _ => none }
def FnExactPitchAfterWrongFalsely : Prop := fnExactPitchAfterRow.holds Try.pinned (OpenSpec.ofChange fnExactPitchAfterWrong)

/-- 'laws.FnExactAreaOf': WHATEVER THE INPUT: true; the input reads as it did. -/
def fnExactAreaOfSpec : ChangeSpec := { name := "fnExactAreaOf", fn := fun _ => fun
  | [d] => { results := [.lit (.bool true)], args := [d] }
  | _ => none }
def fnExactAreaOfRow : OpenClaim := { program := "ytpefhgkfgbigbaa", sum := "34c0682998884930d6f51b3b8e42a09b27ab5cf6bfb14231677301c029ac5a2c", func := "loop.example/g00952/laws.FnExactAreaOf", spec := "fnExactAreaOf", apart := false }
def FnExactAreaOfSaid : Prop := fnExactAreaOfRow.holds Try.pinned (OpenSpec.ofChange fnExactAreaOfSpec)

/-- ITS FALSE NEIGHBOUR: 'it returns false'. Refute it at one input. -/
def fnExactAreaOfWrong : ChangeSpec := { name := "fnExactAreaOf", fn := fun _ => fun
  | [d] => { results := [.lit (.bool false)], args := [d] }
  | _ => none }
def FnExactAreaOfWrongFalsely : Prop := fnExactAreaOfRow.holds Try.pinned (OpenSpec.ofChange fnExactAreaOfWrong)

/-- 'laws.FnExactRingVolume': WHATEVER THE INPUT: true; the input reads as it did. -/
def fnExactRingVolumeSpec : ChangeSpec := { name := "fnExactRingVolume", fn := fun _ => fun
  | [d] => { results := [.lit (.bool true)], args := [d] }
  | _ => none }
def fnExactRingVolumeRow : OpenClaim := { program := "ytpefhgkfgbigbaa", sum := "34c0682998884930d6f51b3b8e42a09b27ab5cf6bfb14231677301c029ac5a2c", func := "loop.example/g00952/laws.FnExactRingVolume", spec := "fnExactRingVolume", apart := false }
def FnExactRingVolumeSaid : Prop := fnExactRingVolumeRow.holds Try.pinned (OpenSpec.ofChange fnExactRingVolumeSpec)

/-- ITS FALSE NEIGHBOUR: 'it returns false'. Refute it at one input. -/
def fnExactRingVolumeWrong : ChangeSpec := { name := "fnExactRingVolume", fn := fun _ => fun
  | [d] => { results := [.lit (.bool false)], args := [d] }
  | _ => none }
def FnExactRingVolumeWrongFalsely : Prop := fnExactRingVolumeRow.holds Try.pinned (OpenSpec.ofChange fnExactRingVolumeWrong)

/-- 'laws.FnExactValidCuts': WHATEVER THE INPUT: true; the input reads as it did. -/
def fnExactValidCutsSpec : ChangeSpec := { name := "fnExactValidCuts", fn := fun _ => fun
  | [d] => { results := [.lit (.bool true)], args := [d] }
  | _ => none }
def fnExactValidCutsRow : OpenClaim := { program := "ytpefhgkfgbigbaa", sum := "34c0682998884930d6f51b3b8e42a09b27ab5cf6bfb14231677301c029ac5a2c", func := "loop.example/g00952/laws.FnExactValidCuts", spec := "fnExactValidCuts", unfollowed := true, recurses := true, apart := false }
def FnExactValidCutsSaid : Prop := fnExactValidCutsRow.holds Try.pinned (OpenSpec.ofChange fnExactValidCutsSpec)

/-- ITS FALSE NEIGHBOUR: 'it returns false'. Refute it at one input. -/
def fnExactValidCutsWrong : ChangeSpec := { name := "fnExactValidCuts", fn := fun _ => fun
  | [d] => { results := [.lit (.bool false)], args := [d] }
  | _ => none }
def FnExactValidCutsWrongFalsely : Prop := fnExactValidCutsRow.holds Try.pinned (OpenSpec.ofChange fnExactValidCutsWrong)

/-- 'laws.FnExactZoneOf': WHATEVER THE INPUT: true; the input reads as it did. -/
def fnExactZoneOfSpec : ChangeSpec := { name := "fnExactZoneOf", fn := fun _ => fun
  | [d1, d2] => { results := [.lit (.bool true)], args := [d1, d2] }
  | _ => none }
def fnExactZoneOfRow : OpenClaim := { program := "ytpefhgkfgbigbaa", sum := "34c0682998884930d6f51b3b8e42a09b27ab5cf6bfb14231677301c029ac5a2c", func := "loop.example/g00952/laws.FnExactZoneOf", spec := "fnExactZoneOf", apart := false }
def FnExactZoneOfSaid : Prop := fnExactZoneOfRow.holds Try.pinned (OpenSpec.ofChange fnExactZoneOfSpec)

/-- ITS FALSE NEIGHBOUR: 'it returns false'. Refute it at one input. -/
def fnExactZoneOfWrong : ChangeSpec := { name := "fnExactZoneOf", fn := fun _ => fun
  | [d1, d2] => { results := [.lit (.bool false)], args := [d1, d2] }
  | _ => none }
def FnExactZoneOfWrongFalsely : Prop := fnExactZoneOfRow.holds Try.pinned (OpenSpec.ofChange fnExactZoneOfWrong)

/-- 'laws.FnExactTotalSteps': WHATEVER THE INPUT: true; the input reads as it did. -/
def fnExactTotalStepsSpec : ChangeSpec := { name := "fnExactTotalSteps", fn := fun _ => fun
  | [d] => { results := [.lit (.bool true)], args := [d] }
  | _ => none }
def fnExactTotalStepsRow : OpenClaim := { program := "ytpefhgkfgbigbaa", sum := "34c0682998884930d6f51b3b8e42a09b27ab5cf6bfb14231677301c029ac5a2c", func := "loop.example/g00952/laws.FnExactTotalSteps", spec := "fnExactTotalSteps", unfollowed := true, recurses := true, apart := false }
def FnExactTotalStepsSaid : Prop := fnExactTotalStepsRow.holds Try.pinned (OpenSpec.ofChange fnExactTotalStepsSpec)

/-- ITS FALSE NEIGHBOUR: 'it returns false'. Refute it at one input. -/
def fnExactTotalStepsWrong : ChangeSpec := { name := "fnExactTotalSteps", fn := fun _ => fun
  | [d] => { results := [.lit (.bool false)], args := [d] }
  | _ => none }
def FnExactTotalStepsWrongFalsely : Prop := fnExactTotalStepsRow.holds Try.pinned (OpenSpec.ofChange fnExactTotalStepsWrong)

/- THE SECOND FORM. 'bulk': how many values and letters a reading holds, each counted each time it is reached (what is shared counts as often as it is met; a slice's spare places count too). A statement '..UptoSaid' is the law's where the arguments, and the package variables that the reading takes, are together of bulk at most 1048576: NARROWER than '..Said'. Prove '..Said' where nothing that the law and all that it calls make is longer than what came in: it says more and counts as full. Else prove '..UptoSaid'. A law counts once. -/
mutual
def uptoBulk {H : Type} : DataW H → Nat
  | .lit (.string bytes) => bytes.length + 1
  | .lit _ => 1
  | .nil => 1
  | .ptr d => uptoBulk d + 1
  | .slice elems spare => uptoBulkAll elems + uptoBulkAll spare + 1
  | .agg parts => uptoBulkAll parts + 1
  | .iface _ d => uptoBulk d + 1
  | .map entries => uptoBulkEntries entries + 1
  | .held _ => 1
def uptoBulkAll {H : Type} : List (DataW H) → Nat
  | [] => 0
  | d :: r => uptoBulk d + uptoBulkAll r
def uptoBulkEntries {H : Type} : List (Lit × DataW H) → Nat
  | [] => 0
  | x :: r => uptoBulkEntry x + uptoBulkEntries r
def uptoBulkEntry {H : Type} : Lit × DataW H → Nat
  | (.string bytes, d) => bytes.length + uptoBulk d + 1
  | (_, d) => uptoBulk d + 1
 end
def uptoSmall : (H : Type) → List (DataW H) → Bool := fun _ ds => decide (uptoBulkAll ds ≤ 1048576)
def OpenSpec.upto (s : _root_.Go.ChangeSpec) : _root_.Go.OpenSpec := { _root_.Go.OpenSpec.ofChange s with cond := some uptoSmall }

/-- 'laws.FnExactValidGoal', WHERE WHAT IT READS IS OF BULK AT MOST 1048576: true; the input reads as it did. -/
def fnExactValidGoalUptoRow : OpenClaim := { program := "ytpefhgkfgbigbaa", sum := "34c0682998884930d6f51b3b8e42a09b27ab5cf6bfb14231677301c029ac5a2c", func := "loop.example/g00952/laws.FnExactValidGoal", spec := "fnExactValidGoal", apart := false, narrowed := true }
def FnExactValidGoalUptoSaid : Prop := fnExactValidGoalUptoRow.holds Try.pinned (OpenSpec.upto fnExactValidGoalSpec)

/-- 'laws.FnExactPitchAfter', WHERE WHAT IT READS IS OF BULK AT MOST 1048576: true; the input reads as it did. -/
def fnExactPitchAfterUptoRow : OpenClaim := { program := "ytpefhgkfgbigbaa", sum := "34c0682998884930d6f51b3b8e42a09b27ab5cf6bfb14231677301c029ac5a2c", func := "loop.example/g00952/laws.FnExactPitchAfter", spec := "fnExactPitchAfter", apart := false, narrowed := true }
def FnExactPitchAfterUptoSaid : Prop := fnExactPitchAfterUptoRow.holds Try.pinned (OpenSpec.upto fnExactPitchAfterSpec)

/-- 'laws.FnExactAreaOf', WHERE WHAT IT READS IS OF BULK AT MOST 1048576: true; the input reads as it did. -/
def fnExactAreaOfUptoRow : OpenClaim := { program := "ytpefhgkfgbigbaa", sum := "34c0682998884930d6f51b3b8e42a09b27ab5cf6bfb14231677301c029ac5a2c", func := "loop.example/g00952/laws.FnExactAreaOf", spec := "fnExactAreaOf", apart := false, narrowed := true }
def FnExactAreaOfUptoSaid : Prop := fnExactAreaOfUptoRow.holds Try.pinned (OpenSpec.upto fnExactAreaOfSpec)

/-- 'laws.FnExactRingVolume', WHERE WHAT IT READS IS OF BULK AT MOST 1048576: true; the input reads as it did. -/
def fnExactRingVolumeUptoRow : OpenClaim := { program := "ytpefhgkfgbigbaa", sum := "34c0682998884930d6f51b3b8e42a09b27ab5cf6bfb14231677301c029ac5a2c", func := "loop.example/g00952/laws.FnExactRingVolume", spec := "fnExactRingVolume", apart := false, narrowed := true }
def FnExactRingVolumeUptoSaid : Prop := fnExactRingVolumeUptoRow.holds Try.pinned (OpenSpec.upto fnExactRingVolumeSpec)

/-- 'laws.FnExactValidCuts', WHERE WHAT IT READS IS OF BULK AT MOST 1048576: true; the input reads as it did. -/
def fnExactValidCutsUptoRow : OpenClaim := { program := "ytpefhgkfgbigbaa", sum := "34c0682998884930d6f51b3b8e42a09b27ab5cf6bfb14231677301c029ac5a2c", func := "loop.example/g00952/laws.FnExactValidCuts", spec := "fnExactValidCuts", unfollowed := true, recurses := true, apart := false, narrowed := true }
def FnExactValidCutsUptoSaid : Prop := fnExactValidCutsUptoRow.holds Try.pinned (OpenSpec.upto fnExactValidCutsSpec)

/-- 'laws.FnExactZoneOf', WHERE WHAT IT READS IS OF BULK AT MOST 1048576: true; the input reads as it did. -/
def fnExactZoneOfUptoRow : OpenClaim := { program := "ytpefhgkfgbigbaa", sum := "34c0682998884930d6f51b3b8e42a09b27ab5cf6bfb14231677301c029ac5a2c", func := "loop.example/g00952/laws.FnExactZoneOf", spec := "fnExactZoneOf", apart := false, narrowed := true }
def FnExactZoneOfUptoSaid : Prop := fnExactZoneOfUptoRow.holds Try.pinned (OpenSpec.upto fnExactZoneOfSpec)

/-- 'laws.FnExactTotalSteps', WHERE WHAT IT READS IS OF BULK AT MOST 1048576: true; the input reads as it did. -/
def fnExactTotalStepsUptoRow : OpenClaim := { program := "ytpefhgkfgbigbaa", sum := "34c0682998884930d6f51b3b8e42a09b27ab5cf6bfb14231677301c029ac5a2c", func := "loop.example/g00952/laws.FnExactTotalSteps", spec := "fnExactTotalSteps", unfollowed := true, recurses := true, apart := false, narrowed := true }
def FnExactTotalStepsUptoSaid : Prop := fnExactTotalStepsUptoRow.holds Try.pinned (OpenSpec.upto fnExactTotalStepsSpec)

end Rows
end Go.Proofs.Ytpefhgkfgbigbaa
