/-
  No cell of these rows narrows 'for every input' (looked for: loops, veiled, ifaces, maps, wideKeys, modest, calm, conditions, laid).
  DERIVED. THE GIVEN ROWS OF THIS SEAT. 12 by the template 'for every input the law returns true; each argument reads behind the call as it read before'; 0 by the template 'total and deterministic' (their statements: YtmickkodcclocaaTotals.lean).
  GIVEN WITH THE SEED: the statements are not yours to turn. If you find one false, say at which input.
  Laid BY PROGRAM, IN A SANDBOX (cutbox-rows.mjs): the forced cells as the released guide's own fill.sh prints them over the translation a2f52005b06e1f45… (all of the seat's roots in one cut). By AI agents, Wed Nov 11 2026. No macro, syntax, notation, axiom, sorry.
-/
import Derived.Test.YtmickkodcclocaaChecked
import GoSem.Claim
import GoSem.ClaimJoined
import GoSem.ClaimMapViews
import Derived.JoinedTies
import Derived.KernelRfl
namespace Go.Proofs.Ytmickkodcclocaa
/- THE CELL 'sum', in the pinned program and in every row, IS THE sha256 OF THE DUMP (.gsa) THAT YtmickkodcclocaaProg.lean LOADS. Nothing in Lean hashes anything: it is a label: what it is worth is what the hold of that sum in a sandbox is worth. -/
noncomputable def Try.pinned : Pinned := { name := "ytmickkodcclocaa", sum := "a2f52005b06e1f4578f674e62ca6bc74cdc1c8f3cd111906087ff7a8f2712827", checked := Try.checked }
namespace Rows
def none {H : Type} : Left H := { results := [], args := [] }

/-- 'laws.FnExactScaleProfile': WHATEVER THE INPUT: true; the input reads as it did. -/
def fnExactScaleProfileSpec : ChangeSpec := { name := "fnExactScaleProfile", fn := fun _ => fun
  | [d1, d2, d3] => { results := [.lit (.bool true)], args := [d1, d2, d3] }
  | _ => none }
def fnExactScaleProfileRow : OpenClaim := { program := "ytmickkodcclocaa", sum := "a2f52005b06e1f4578f674e62ca6bc74cdc1c8f3cd111906087ff7a8f2712827", func := "loop.example/g00952/laws.FnExactScaleProfile", spec := "fnExactScaleProfile", unfollowed := true, recurses := true, apart := false }
def FnExactScaleProfileSaid : Prop := fnExactScaleProfileRow.holds Try.pinned (OpenSpec.ofChange fnExactScaleProfileSpec)

/-- ITS FALSE NEIGHBOUR: 'it returns false'. Refute it at one input. -/
def fnExactScaleProfileWrong : ChangeSpec := { name := "fnExactScaleProfile", fn := fun _ => fun
  | [d1, d2, d3] => { results := [.lit (.bool false)], args := [d1, d2, d3] }
  | _ => none }
def FnExactScaleProfileWrongFalsely : Prop := fnExactScaleProfileRow.holds Try.pinned (OpenSpec.ofChange fnExactScaleProfileWrong)

/-- 'laws.FnExactScaleForPitch': WHATEVER THE INPUT: true; the input reads as it did. -/
def fnExactScaleForPitchSpec : ChangeSpec := { name := "fnExactScaleForPitch", fn := fun _ => fun
  | [d1, d2, d3] => { results := [.lit (.bool true)], args := [d1, d2, d3] }
  | _ => none }
def fnExactScaleForPitchRow : OpenClaim := { program := "ytmickkodcclocaa", sum := "a2f52005b06e1f4578f674e62ca6bc74cdc1c8f3cd111906087ff7a8f2712827", func := "loop.example/g00952/laws.FnExactScaleForPitch", spec := "fnExactScaleForPitch", unfollowed := true, recurses := true, apart := false }
def FnExactScaleForPitchSaid : Prop := fnExactScaleForPitchRow.holds Try.pinned (OpenSpec.ofChange fnExactScaleForPitchSpec)

/-- ITS FALSE NEIGHBOUR: 'it returns false'. Refute it at one input. -/
def fnExactScaleForPitchWrong : ChangeSpec := { name := "fnExactScaleForPitch", fn := fun _ => fun
  | [d1, d2, d3] => { results := [.lit (.bool false)], args := [d1, d2, d3] }
  | _ => none }
def FnExactScaleForPitchWrongFalsely : Prop := fnExactScaleForPitchRow.holds Try.pinned (OpenSpec.ofChange fnExactScaleForPitchWrong)

/-- 'laws.FnExactFamilyOf': WHATEVER THE INPUT: true; the input reads as it did. -/
def fnExactFamilyOfSpec : ChangeSpec := { name := "fnExactFamilyOf", fn := fun _ => fun
  | [d1, d2, d3, d4] => { results := [.lit (.bool true)], args := [d1, d2, d3, d4] }
  | _ => none }
def fnExactFamilyOfRow : OpenClaim := { program := "ytmickkodcclocaa", sum := "a2f52005b06e1f4578f674e62ca6bc74cdc1c8f3cd111906087ff7a8f2712827", func := "loop.example/g00952/laws.FnExactFamilyOf", spec := "fnExactFamilyOf", unfollowed := true, recurses := true, apart := false }
def FnExactFamilyOfSaid : Prop := fnExactFamilyOfRow.holds Try.pinned (OpenSpec.ofChange fnExactFamilyOfSpec)

/-- ITS FALSE NEIGHBOUR: 'it returns false'. Refute it at one input. -/
def fnExactFamilyOfWrong : ChangeSpec := { name := "fnExactFamilyOf", fn := fun _ => fun
  | [d1, d2, d3, d4] => { results := [.lit (.bool false)], args := [d1, d2, d3, d4] }
  | _ => none }
def FnExactFamilyOfWrongFalsely : Prop := fnExactFamilyOfRow.holds Try.pinned (OpenSpec.ofChange fnExactFamilyOfWrong)

/-- 'laws.FnExactStandardModel': WHATEVER THE INPUT: true; the input reads as it did. -/
def fnExactStandardModelSpec : ChangeSpec := { name := "fnExactStandardModel", fn := fun _ => fun
  | [d] => { results := [.lit (.bool true)], args := [d] }
  | _ => none }
def fnExactStandardModelRow : OpenClaim := { program := "ytmickkodcclocaa", sum := "a2f52005b06e1f4578f674e62ca6bc74cdc1c8f3cd111906087ff7a8f2712827", func := "loop.example/g00952/laws.FnExactStandardModel", spec := "fnExactStandardModel", apart := false }
def FnExactStandardModelSaid : Prop := fnExactStandardModelRow.holds Try.pinned (OpenSpec.ofChange fnExactStandardModelSpec)

/-- ITS FALSE NEIGHBOUR: 'it returns false'. Refute it at one input. -/
def fnExactStandardModelWrong : ChangeSpec := { name := "fnExactStandardModel", fn := fun _ => fun
  | [d] => { results := [.lit (.bool false)], args := [d] }
  | _ => none }
def FnExactStandardModelWrongFalsely : Prop := fnExactStandardModelRow.holds Try.pinned (OpenSpec.ofChange fnExactStandardModelWrong)

/-- 'laws.FnExactRemoveRing': WHATEVER THE INPUT: true; the input reads as it did. -/
def fnExactRemoveRingSpec : ChangeSpec := { name := "fnExactRemoveRing", fn := fun _ => fun
  | [d1, d2] => { results := [.lit (.bool true)], args := [d1, d2] }
  | _ => none }
def fnExactRemoveRingRow : OpenClaim := { program := "ytmickkodcclocaa", sum := "a2f52005b06e1f4578f674e62ca6bc74cdc1c8f3cd111906087ff7a8f2712827", func := "loop.example/g00952/laws.FnExactRemoveRing", spec := "fnExactRemoveRing", unfollowed := true, recurses := true, apart := false }
def FnExactRemoveRingSaid : Prop := fnExactRemoveRingRow.holds Try.pinned (OpenSpec.ofChange fnExactRemoveRingSpec)

/-- ITS FALSE NEIGHBOUR: 'it returns false'. Refute it at one input. -/
def fnExactRemoveRingWrong : ChangeSpec := { name := "fnExactRemoveRing", fn := fun _ => fun
  | [d1, d2] => { results := [.lit (.bool false)], args := [d1, d2] }
  | _ => none }
def FnExactRemoveRingWrongFalsely : Prop := fnExactRemoveRingRow.holds Try.pinned (OpenSpec.ofChange fnExactRemoveRingWrong)

/-- 'laws.FnExactFitBase': WHATEVER THE INPUT: true; the input reads as it did. -/
def fnExactFitBaseSpec : ChangeSpec := { name := "fnExactFitBase", fn := fun _ => fun
  | [d1, d2, d3] => { results := [.lit (.bool true)], args := [d1, d2, d3] }
  | _ => none }
def fnExactFitBaseRow : OpenClaim := { program := "ytmickkodcclocaa", sum := "a2f52005b06e1f4578f674e62ca6bc74cdc1c8f3cd111906087ff7a8f2712827", func := "loop.example/g00952/laws.FnExactFitBase", spec := "fnExactFitBase", unfollowed := true, recurses := true, apart := false }
def FnExactFitBaseSaid : Prop := fnExactFitBaseRow.holds Try.pinned (OpenSpec.ofChange fnExactFitBaseSpec)

/-- ITS FALSE NEIGHBOUR: 'it returns false'. Refute it at one input. -/
def fnExactFitBaseWrong : ChangeSpec := { name := "fnExactFitBase", fn := fun _ => fun
  | [d1, d2, d3] => { results := [.lit (.bool false)], args := [d1, d2, d3] }
  | _ => none }
def FnExactFitBaseWrongFalsely : Prop := fnExactFitBaseRow.holds Try.pinned (OpenSpec.ofChange fnExactFitBaseWrong)

/-- 'laws.FnExactSensitivity': WHATEVER THE INPUT: true; the input reads as it did. -/
def fnExactSensitivitySpec : ChangeSpec := { name := "fnExactSensitivity", fn := fun _ => fun
  | [d1, d2, d3] => { results := [.lit (.bool true)], args := [d1, d2, d3] }
  | _ => none }
def fnExactSensitivityRow : OpenClaim := { program := "ytmickkodcclocaa", sum := "a2f52005b06e1f4578f674e62ca6bc74cdc1c8f3cd111906087ff7a8f2712827", func := "loop.example/g00952/laws.FnExactSensitivity", spec := "fnExactSensitivity", unfollowed := true, recurses := true, apart := false }
def FnExactSensitivitySaid : Prop := fnExactSensitivityRow.holds Try.pinned (OpenSpec.ofChange fnExactSensitivitySpec)

/-- ITS FALSE NEIGHBOUR: 'it returns false'. Refute it at one input. -/
def fnExactSensitivityWrong : ChangeSpec := { name := "fnExactSensitivity", fn := fun _ => fun
  | [d1, d2, d3] => { results := [.lit (.bool false)], args := [d1, d2, d3] }
  | _ => none }
def FnExactSensitivityWrongFalsely : Prop := fnExactSensitivityRow.holds Try.pinned (OpenSpec.ofChange fnExactSensitivityWrong)

/-- 'laws.FnScaling': WHATEVER THE INPUT: true; the input reads as it did. -/
def fnScalingSpec : ChangeSpec := { name := "fnScaling", fn := fun _ => fun
  | [d1, d2] => { results := [.lit (.bool true)], args := [d1, d2] }
  | _ => none }
def fnScalingRow : OpenClaim := { program := "ytmickkodcclocaa", sum := "a2f52005b06e1f4578f674e62ca6bc74cdc1c8f3cd111906087ff7a8f2712827", func := "loop.example/g00952/laws.FnScaling", spec := "fnScaling", unfollowed := true, recurses := true, apart := false }
def FnScalingSaid : Prop := fnScalingRow.holds Try.pinned (OpenSpec.ofChange fnScalingSpec)

/-- ITS FALSE NEIGHBOUR: 'it returns false'. Refute it at one input. -/
def fnScalingWrong : ChangeSpec := { name := "fnScaling", fn := fun _ => fun
  | [d1, d2] => { results := [.lit (.bool false)], args := [d1, d2] }
  | _ => none }
def FnScalingWrongFalsely : Prop := fnScalingRow.holds Try.pinned (OpenSpec.ofChange fnScalingWrong)

/-- 'laws.FnCentres': WHATEVER THE INPUT: true; the input reads as it did. -/
def fnCentresSpec : ChangeSpec := { name := "fnCentres", fn := fun _ => fun
  | [d1, d2] => { results := [.lit (.bool true)], args := [d1, d2] }
  | _ => none }
def fnCentresRow : OpenClaim := { program := "ytmickkodcclocaa", sum := "a2f52005b06e1f4578f674e62ca6bc74cdc1c8f3cd111906087ff7a8f2712827", func := "loop.example/g00952/laws.FnCentres", spec := "fnCentres", unfollowed := true, recurses := true, apart := false }
def FnCentresSaid : Prop := fnCentresRow.holds Try.pinned (OpenSpec.ofChange fnCentresSpec)

/-- ITS FALSE NEIGHBOUR: 'it returns false'. Refute it at one input. -/
def fnCentresWrong : ChangeSpec := { name := "fnCentres", fn := fun _ => fun
  | [d1, d2] => { results := [.lit (.bool false)], args := [d1, d2] }
  | _ => none }
def FnCentresWrongFalsely : Prop := fnCentresRow.holds Try.pinned (OpenSpec.ofChange fnCentresWrong)

/-- 'laws.FnVolumes': WHATEVER THE INPUT: true; the input reads as it did. -/
def fnVolumesSpec : ChangeSpec := { name := "fnVolumes", fn := fun _ => fun
  | [d1, d2] => { results := [.lit (.bool true)], args := [d1, d2] }
  | _ => none }
def fnVolumesRow : OpenClaim := { program := "ytmickkodcclocaa", sum := "a2f52005b06e1f4578f674e62ca6bc74cdc1c8f3cd111906087ff7a8f2712827", func := "loop.example/g00952/laws.FnVolumes", spec := "fnVolumes", unfollowed := true, recurses := true, apart := false }
def FnVolumesSaid : Prop := fnVolumesRow.holds Try.pinned (OpenSpec.ofChange fnVolumesSpec)

/-- ITS FALSE NEIGHBOUR: 'it returns false'. Refute it at one input. -/
def fnVolumesWrong : ChangeSpec := { name := "fnVolumes", fn := fun _ => fun
  | [d1, d2] => { results := [.lit (.bool false)], args := [d1, d2] }
  | _ => none }
def FnVolumesWrongFalsely : Prop := fnVolumesRow.holds Try.pinned (OpenSpec.ofChange fnVolumesWrong)

/-- 'laws.FnLathe': WHATEVER THE INPUT: true; the input reads as it did. -/
def fnLatheSpec : ChangeSpec := { name := "fnLathe", fn := fun _ => fun
  | [d1, d2] => { results := [.lit (.bool true)], args := [d1, d2] }
  | _ => none }
def fnLatheRow : OpenClaim := { program := "ytmickkodcclocaa", sum := "a2f52005b06e1f4578f674e62ca6bc74cdc1c8f3cd111906087ff7a8f2712827", func := "loop.example/g00952/laws.FnLathe", spec := "fnLathe", unfollowed := true, recurses := true, apart := false }
def FnLatheSaid : Prop := fnLatheRow.holds Try.pinned (OpenSpec.ofChange fnLatheSpec)

/-- ITS FALSE NEIGHBOUR: 'it returns false'. Refute it at one input. -/
def fnLatheWrong : ChangeSpec := { name := "fnLathe", fn := fun _ => fun
  | [d1, d2] => { results := [.lit (.bool false)], args := [d1, d2] }
  | _ => none }
def FnLatheWrongFalsely : Prop := fnLatheRow.holds Try.pinned (OpenSpec.ofChange fnLatheWrong)

/-- 'laws.FnBlends': WHATEVER THE INPUT: true; the input reads as it did. -/
def fnBlendsSpec : ChangeSpec := { name := "fnBlends", fn := fun _ => fun
  | [d1, d2] => { results := [.lit (.bool true)], args := [d1, d2] }
  | _ => none }
def fnBlendsRow : OpenClaim := { program := "ytmickkodcclocaa", sum := "a2f52005b06e1f4578f674e62ca6bc74cdc1c8f3cd111906087ff7a8f2712827", func := "loop.example/g00952/laws.FnBlends", spec := "fnBlends", unfollowed := true, recurses := true, apart := false }
def FnBlendsSaid : Prop := fnBlendsRow.holds Try.pinned (OpenSpec.ofChange fnBlendsSpec)

/-- ITS FALSE NEIGHBOUR: 'it returns false'. Refute it at one input. -/
def fnBlendsWrong : ChangeSpec := { name := "fnBlends", fn := fun _ => fun
  | [d1, d2] => { results := [.lit (.bool false)], args := [d1, d2] }
  | _ => none }
def FnBlendsWrongFalsely : Prop := fnBlendsRow.holds Try.pinned (OpenSpec.ofChange fnBlendsWrong)

/- THE SECOND FORM. 'bulk': how many values and letters a reading holds, each counted each time it is reached (what is shared counts as often as it is met; a slice's spare places count too). A statement '..UptoSaid' is the law's where the arguments, and the package variables that the reading takes, are together of bulk at most 1048576: NARROWER than '..Said'. Prove '..Said' where nothing that the law and all that it calls make is longer than what came in: it says more and counts as full. Else prove '..UptoSaid'. A law counts once. -/
mutual
def uptoBulk {H : Type} : DataW H → Nat
  | .lit (.string bytes) => bytes.length + 1
  | .lit _ => 1
  | .nil => 1
  | .ptr d => uptoBulk d + 1
  | .slice elems spare => uptoBulkAll elems + uptoBulkAll spare + 1
  | .agg parts => uptoBulkAll parts + 1
  | .iface _ d => uptoBulk d + 1
  | .map entries => uptoBulkEntries entries + 1
  | .held _ => 1
def uptoBulkAll {H : Type} : List (DataW H) → Nat
  | [] => 0
  | d :: r => uptoBulk d + uptoBulkAll r
def uptoBulkEntries {H : Type} : List (Lit × DataW H) → Nat
  | [] => 0
  | x :: r => uptoBulkEntry x + uptoBulkEntries r
def uptoBulkEntry {H : Type} : Lit × DataW H → Nat
  | (.string bytes, d) => bytes.length + uptoBulk d + 1
  | (_, d) => uptoBulk d + 1
 end
def uptoSmall : (H : Type) → List (DataW H) → Bool := fun _ ds => decide (uptoBulkAll ds ≤ 1048576)
def OpenSpec.upto (s : _root_.Go.ChangeSpec) : _root_.Go.OpenSpec := { _root_.Go.OpenSpec.ofChange s with cond := some uptoSmall }

/-- 'laws.FnExactScaleProfile', WHERE WHAT IT READS IS OF BULK AT MOST 1048576: true; the input reads as it did. -/
def fnExactScaleProfileUptoRow : OpenClaim := { program := "ytmickkodcclocaa", sum := "a2f52005b06e1f4578f674e62ca6bc74cdc1c8f3cd111906087ff7a8f2712827", func := "loop.example/g00952/laws.FnExactScaleProfile", spec := "fnExactScaleProfile", unfollowed := true, recurses := true, apart := false, narrowed := true }
def FnExactScaleProfileUptoSaid : Prop := fnExactScaleProfileUptoRow.holds Try.pinned (OpenSpec.upto fnExactScaleProfileSpec)

/-- 'laws.FnExactScaleForPitch', WHERE WHAT IT READS IS OF BULK AT MOST 1048576: true; the input reads as it did. -/
def fnExactScaleForPitchUptoRow : OpenClaim := { program := "ytmickkodcclocaa", sum := "a2f52005b06e1f4578f674e62ca6bc74cdc1c8f3cd111906087ff7a8f2712827", func := "loop.example/g00952/laws.FnExactScaleForPitch", spec := "fnExactScaleForPitch", unfollowed := true, recurses := true, apart := false, narrowed := true }
def FnExactScaleForPitchUptoSaid : Prop := fnExactScaleForPitchUptoRow.holds Try.pinned (OpenSpec.upto fnExactScaleForPitchSpec)

/-- 'laws.FnExactFamilyOf', WHERE WHAT IT READS IS OF BULK AT MOST 1048576: true; the input reads as it did. -/
def fnExactFamilyOfUptoRow : OpenClaim := { program := "ytmickkodcclocaa", sum := "a2f52005b06e1f4578f674e62ca6bc74cdc1c8f3cd111906087ff7a8f2712827", func := "loop.example/g00952/laws.FnExactFamilyOf", spec := "fnExactFamilyOf", unfollowed := true, recurses := true, apart := false, narrowed := true }
def FnExactFamilyOfUptoSaid : Prop := fnExactFamilyOfUptoRow.holds Try.pinned (OpenSpec.upto fnExactFamilyOfSpec)

/-- 'laws.FnExactStandardModel', WHERE WHAT IT READS IS OF BULK AT MOST 1048576: true; the input reads as it did. -/
def fnExactStandardModelUptoRow : OpenClaim := { program := "ytmickkodcclocaa", sum := "a2f52005b06e1f4578f674e62ca6bc74cdc1c8f3cd111906087ff7a8f2712827", func := "loop.example/g00952/laws.FnExactStandardModel", spec := "fnExactStandardModel", apart := false, narrowed := true }
def FnExactStandardModelUptoSaid : Prop := fnExactStandardModelUptoRow.holds Try.pinned (OpenSpec.upto fnExactStandardModelSpec)

/-- 'laws.FnExactRemoveRing', WHERE WHAT IT READS IS OF BULK AT MOST 1048576: true; the input reads as it did. -/
def fnExactRemoveRingUptoRow : OpenClaim := { program := "ytmickkodcclocaa", sum := "a2f52005b06e1f4578f674e62ca6bc74cdc1c8f3cd111906087ff7a8f2712827", func := "loop.example/g00952/laws.FnExactRemoveRing", spec := "fnExactRemoveRing", unfollowed := true, recurses := true, apart := false, narrowed := true }
def FnExactRemoveRingUptoSaid : Prop := fnExactRemoveRingUptoRow.holds Try.pinned (OpenSpec.upto fnExactRemoveRingSpec)

/-- 'laws.FnExactFitBase', WHERE WHAT IT READS IS OF BULK AT MOST 1048576: true; the input reads as it did. -/
def fnExactFitBaseUptoRow : OpenClaim := { program := "ytmickkodcclocaa", sum := "a2f52005b06e1f4578f674e62ca6bc74cdc1c8f3cd111906087ff7a8f2712827", func := "loop.example/g00952/laws.FnExactFitBase", spec := "fnExactFitBase", unfollowed := true, recurses := true, apart := false, narrowed := true }
def FnExactFitBaseUptoSaid : Prop := fnExactFitBaseUptoRow.holds Try.pinned (OpenSpec.upto fnExactFitBaseSpec)

/-- 'laws.FnExactSensitivity', WHERE WHAT IT READS IS OF BULK AT MOST 1048576: true; the input reads as it did. -/
def fnExactSensitivityUptoRow : OpenClaim := { program := "ytmickkodcclocaa", sum := "a2f52005b06e1f4578f674e62ca6bc74cdc1c8f3cd111906087ff7a8f2712827", func := "loop.example/g00952/laws.FnExactSensitivity", spec := "fnExactSensitivity", unfollowed := true, recurses := true, apart := false, narrowed := true }
def FnExactSensitivityUptoSaid : Prop := fnExactSensitivityUptoRow.holds Try.pinned (OpenSpec.upto fnExactSensitivitySpec)

/-- 'laws.FnScaling', WHERE WHAT IT READS IS OF BULK AT MOST 1048576: true; the input reads as it did. -/
def fnScalingUptoRow : OpenClaim := { program := "ytmickkodcclocaa", sum := "a2f52005b06e1f4578f674e62ca6bc74cdc1c8f3cd111906087ff7a8f2712827", func := "loop.example/g00952/laws.FnScaling", spec := "fnScaling", unfollowed := true, recurses := true, apart := false, narrowed := true }
def FnScalingUptoSaid : Prop := fnScalingUptoRow.holds Try.pinned (OpenSpec.upto fnScalingSpec)

/-- 'laws.FnCentres', WHERE WHAT IT READS IS OF BULK AT MOST 1048576: true; the input reads as it did. -/
def fnCentresUptoRow : OpenClaim := { program := "ytmickkodcclocaa", sum := "a2f52005b06e1f4578f674e62ca6bc74cdc1c8f3cd111906087ff7a8f2712827", func := "loop.example/g00952/laws.FnCentres", spec := "fnCentres", unfollowed := true, recurses := true, apart := false, narrowed := true }
def FnCentresUptoSaid : Prop := fnCentresUptoRow.holds Try.pinned (OpenSpec.upto fnCentresSpec)

/-- 'laws.FnVolumes', WHERE WHAT IT READS IS OF BULK AT MOST 1048576: true; the input reads as it did. -/
def fnVolumesUptoRow : OpenClaim := { program := "ytmickkodcclocaa", sum := "a2f52005b06e1f4578f674e62ca6bc74cdc1c8f3cd111906087ff7a8f2712827", func := "loop.example/g00952/laws.FnVolumes", spec := "fnVolumes", unfollowed := true, recurses := true, apart := false, narrowed := true }
def FnVolumesUptoSaid : Prop := fnVolumesUptoRow.holds Try.pinned (OpenSpec.upto fnVolumesSpec)

/-- 'laws.FnLathe', WHERE WHAT IT READS IS OF BULK AT MOST 1048576: true; the input reads as it did. -/
def fnLatheUptoRow : OpenClaim := { program := "ytmickkodcclocaa", sum := "a2f52005b06e1f4578f674e62ca6bc74cdc1c8f3cd111906087ff7a8f2712827", func := "loop.example/g00952/laws.FnLathe", spec := "fnLathe", unfollowed := true, recurses := true, apart := false, narrowed := true }
def FnLatheUptoSaid : Prop := fnLatheUptoRow.holds Try.pinned (OpenSpec.upto fnLatheSpec)

/-- 'laws.FnBlends', WHERE WHAT IT READS IS OF BULK AT MOST 1048576: true; the input reads as it did. -/
def fnBlendsUptoRow : OpenClaim := { program := "ytmickkodcclocaa", sum := "a2f52005b06e1f4578f674e62ca6bc74cdc1c8f3cd111906087ff7a8f2712827", func := "loop.example/g00952/laws.FnBlends", spec := "fnBlends", unfollowed := true, recurses := true, apart := false, narrowed := true }
def FnBlendsUptoSaid : Prop := fnBlendsUptoRow.holds Try.pinned (OpenSpec.upto fnBlendsSpec)

end Rows
end Go.Proofs.Ytmickkodcclocaa
