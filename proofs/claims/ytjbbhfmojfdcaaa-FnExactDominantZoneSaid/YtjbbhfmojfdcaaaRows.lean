/-
  No cell of these rows narrows 'for every input' (looked for: loops, veiled, ifaces, maps, wideKeys, modest, calm, conditions, laid).
  DERIVED. THE GIVEN ROWS OF THIS SEAT. 12 by the template 'for every input the law returns true; each argument reads behind the call as it read before'; 0 by the template 'total and deterministic' (their statements: YtjbbhfmojfdcaaaTotals.lean).
  GIVEN WITH THE SEED: the statements are not yours to turn. If you find one false, say at which input.
  Laid BY PROGRAM, IN A SANDBOX (cutbox-rows.mjs): the forced cells as the released guide's own fill.sh prints them over the translation 52cdaaebb289f715… (all of the seat's roots in one cut). By AI agents, Wed Nov 11 2026. No macro, syntax, notation, axiom, sorry.
-/
import Derived.Test.YtjbbhfmojfdcaaaChecked
import GoSem.Claim
import GoSem.ClaimJoined
import GoSem.ClaimMapViews
import Derived.JoinedTies
import Derived.KernelRfl
namespace Go.Proofs.Ytjbbhfmojfdcaaa
/- THE CELL 'sum', in the pinned program and in every row, IS THE sha256 OF THE DUMP (.gsa) THAT YtjbbhfmojfdcaaaProg.lean LOADS. Nothing in Lean hashes anything: it is a label: what it is worth is what the hold of that sum in a sandbox is worth. -/
noncomputable def Try.pinned : Pinned := { name := "ytjbbhfmojfdcaaa", sum := "52cdaaebb289f715245accf4dce748cd7e33b28b0102132d8e52caac8a50fa19", checked := Try.checked }
namespace Rows
def none {H : Type} : Left H := { results := [], args := [] }

/-- 'laws.FnExactSameModel': WHATEVER THE INPUT: true; the input reads as it did. -/
def fnExactSameModelSpec : ChangeSpec := { name := "fnExactSameModel", fn := fun _ => fun
  | [d1, d2] => { results := [.lit (.bool true)], args := [d1, d2] }
  | _ => none }
def fnExactSameModelRow : OpenClaim := { program := "ytjbbhfmojfdcaaa", sum := "52cdaaebb289f715245accf4dce748cd7e33b28b0102132d8e52caac8a50fa19", func := "loop.example/g00952/laws.FnExactSameModel", spec := "fnExactSameModel", unfollowed := true, recurses := true, apart := false }
def FnExactSameModelSaid : Prop := fnExactSameModelRow.holds Try.pinned (OpenSpec.ofChange fnExactSameModelSpec)

/-- ITS FALSE NEIGHBOUR: 'it returns false'. Refute it at one input. -/
def fnExactSameModelWrong : ChangeSpec := { name := "fnExactSameModel", fn := fun _ => fun
  | [d1, d2] => { results := [.lit (.bool false)], args := [d1, d2] }
  | _ => none }
def FnExactSameModelWrongFalsely : Prop := fnExactSameModelRow.holds Try.pinned (OpenSpec.ofChange fnExactSameModelWrong)

/-- 'laws.FnExactSortCuts': WHATEVER THE INPUT: true; the input reads as it did. -/
def fnExactSortCutsSpec : ChangeSpec := { name := "fnExactSortCuts", fn := fun _ => fun
  | [d] => { results := [.lit (.bool true)], args := [d] }
  | _ => none }
def fnExactSortCutsRow : OpenClaim := { program := "ytjbbhfmojfdcaaa", sum := "52cdaaebb289f715245accf4dce748cd7e33b28b0102132d8e52caac8a50fa19", func := "loop.example/g00952/laws.FnExactSortCuts", spec := "fnExactSortCuts", unfollowed := true, recurses := true, apart := false }
def FnExactSortCutsSaid : Prop := fnExactSortCutsRow.holds Try.pinned (OpenSpec.ofChange fnExactSortCutsSpec)

/-- ITS FALSE NEIGHBOUR: 'it returns false'. Refute it at one input. -/
def fnExactSortCutsWrong : ChangeSpec := { name := "fnExactSortCuts", fn := fun _ => fun
  | [d] => { results := [.lit (.bool false)], args := [d] }
  | _ => none }
def FnExactSortCutsWrongFalsely : Prop := fnExactSortCutsRow.holds Try.pinned (OpenSpec.ofChange fnExactSortCutsWrong)

/-- 'laws.FnExactValidModel': WHATEVER THE INPUT: true; the input reads as it did. -/
def fnExactValidModelSpec : ChangeSpec := { name := "fnExactValidModel", fn := fun _ => fun
  | [d] => { results := [.lit (.bool true)], args := [d] }
  | _ => none }
def fnExactValidModelRow : OpenClaim := { program := "ytjbbhfmojfdcaaa", sum := "52cdaaebb289f715245accf4dce748cd7e33b28b0102132d8e52caac8a50fa19", func := "loop.example/g00952/laws.FnExactValidModel", spec := "fnExactValidModel", unfollowed := true, recurses := true, apart := false }
def FnExactValidModelSaid : Prop := fnExactValidModelRow.holds Try.pinned (OpenSpec.ofChange fnExactValidModelSpec)

/-- ITS FALSE NEIGHBOUR: 'it returns false'. Refute it at one input. -/
def fnExactValidModelWrong : ChangeSpec := { name := "fnExactValidModel", fn := fun _ => fun
  | [d] => { results := [.lit (.bool false)], args := [d] }
  | _ => none }
def FnExactValidModelWrongFalsely : Prop := fnExactValidModelRow.holds Try.pinned (OpenSpec.ofChange fnExactValidModelWrong)

/-- 'laws.FnExactWidestRing': WHATEVER THE INPUT: true; the input reads as it did. -/
def fnExactWidestRingSpec : ChangeSpec := { name := "fnExactWidestRing", fn := fun _ => fun
  | [d] => { results := [.lit (.bool true)], args := [d] }
  | _ => none }
def fnExactWidestRingRow : OpenClaim := { program := "ytjbbhfmojfdcaaa", sum := "52cdaaebb289f715245accf4dce748cd7e33b28b0102132d8e52caac8a50fa19", func := "loop.example/g00952/laws.FnExactWidestRing", spec := "fnExactWidestRing", unfollowed := true, recurses := true, apart := false }
def FnExactWidestRingSaid : Prop := fnExactWidestRingRow.holds Try.pinned (OpenSpec.ofChange fnExactWidestRingSpec)

/-- ITS FALSE NEIGHBOUR: 'it returns false'. Refute it at one input. -/
def fnExactWidestRingWrong : ChangeSpec := { name := "fnExactWidestRing", fn := fun _ => fun
  | [d] => { results := [.lit (.bool false)], args := [d] }
  | _ => none }
def FnExactWidestRingWrongFalsely : Prop := fnExactWidestRingRow.holds Try.pinned (OpenSpec.ofChange fnExactWidestRingWrong)

/-- 'laws.FnExactThinnestRing': WHATEVER THE INPUT: true; the input reads as it did. -/
def fnExactThinnestRingSpec : ChangeSpec := { name := "fnExactThinnestRing", fn := fun _ => fun
  | [d] => { results := [.lit (.bool true)], args := [d] }
  | _ => none }
def fnExactThinnestRingRow : OpenClaim := { program := "ytjbbhfmojfdcaaa", sum := "52cdaaebb289f715245accf4dce748cd7e33b28b0102132d8e52caac8a50fa19", func := "loop.example/g00952/laws.FnExactThinnestRing", spec := "fnExactThinnestRing", unfollowed := true, recurses := true, apart := false }
def FnExactThinnestRingSaid : Prop := fnExactThinnestRingRow.holds Try.pinned (OpenSpec.ofChange fnExactThinnestRingSpec)

/-- ITS FALSE NEIGHBOUR: 'it returns false'. Refute it at one input. -/
def fnExactThinnestRingWrong : ChangeSpec := { name := "fnExactThinnestRing", fn := fun _ => fun
  | [d] => { results := [.lit (.bool false)], args := [d] }
  | _ => none }
def FnExactThinnestRingWrongFalsely : Prop := fnExactThinnestRingRow.holds Try.pinned (OpenSpec.ofChange fnExactThinnestRingWrong)

/-- 'laws.FnExactGreatestStep': WHATEVER THE INPUT: true; the input reads as it did. -/
def fnExactGreatestStepSpec : ChangeSpec := { name := "fnExactGreatestStep", fn := fun _ => fun
  | [d] => { results := [.lit (.bool true)], args := [d] }
  | _ => none }
def fnExactGreatestStepRow : OpenClaim := { program := "ytjbbhfmojfdcaaa", sum := "52cdaaebb289f715245accf4dce748cd7e33b28b0102132d8e52caac8a50fa19", func := "loop.example/g00952/laws.FnExactGreatestStep", spec := "fnExactGreatestStep", unfollowed := true, recurses := true, apart := false }
def FnExactGreatestStepSaid : Prop := fnExactGreatestStepRow.holds Try.pinned (OpenSpec.ofChange fnExactGreatestStepSpec)

/-- ITS FALSE NEIGHBOUR: 'it returns false'. Refute it at one input. -/
def fnExactGreatestStepWrong : ChangeSpec := { name := "fnExactGreatestStep", fn := fun _ => fun
  | [d] => { results := [.lit (.bool false)], args := [d] }
  | _ => none }
def FnExactGreatestStepWrongFalsely : Prop := fnExactGreatestStepRow.holds Try.pinned (OpenSpec.ofChange fnExactGreatestStepWrong)

/-- 'laws.FnExactValidZones': WHATEVER THE INPUT: true; the input reads as it did. -/
def fnExactValidZonesSpec : ChangeSpec := { name := "fnExactValidZones", fn := fun _ => fun
  | [d1, d2] => { results := [.lit (.bool true)], args := [d1, d2] }
  | _ => none }
def fnExactValidZonesRow : OpenClaim := { program := "ytjbbhfmojfdcaaa", sum := "52cdaaebb289f715245accf4dce748cd7e33b28b0102132d8e52caac8a50fa19", func := "loop.example/g00952/laws.FnExactValidZones", spec := "fnExactValidZones", unfollowed := true, recurses := true, apart := false }
def FnExactValidZonesSaid : Prop := fnExactValidZonesRow.holds Try.pinned (OpenSpec.ofChange fnExactValidZonesSpec)

/-- ITS FALSE NEIGHBOUR: 'it returns false'. Refute it at one input. -/
def fnExactValidZonesWrong : ChangeSpec := { name := "fnExactValidZones", fn := fun _ => fun
  | [d1, d2] => { results := [.lit (.bool false)], args := [d1, d2] }
  | _ => none }
def FnExactValidZonesWrongFalsely : Prop := fnExactValidZonesRow.holds Try.pinned (OpenSpec.ofChange fnExactValidZonesWrong)

/-- 'laws.FnExactStandardModel': WHATEVER THE INPUT: true; the input reads as it did. -/
def fnExactStandardModelSpec : ChangeSpec := { name := "fnExactStandardModel", fn := fun _ => fun
  | [d] => { results := [.lit (.bool true)], args := [d] }
  | _ => none }
def fnExactStandardModelRow : OpenClaim := { program := "ytjbbhfmojfdcaaa", sum := "52cdaaebb289f715245accf4dce748cd7e33b28b0102132d8e52caac8a50fa19", func := "loop.example/g00952/laws.FnExactStandardModel", spec := "fnExactStandardModel", apart := false }
def FnExactStandardModelSaid : Prop := fnExactStandardModelRow.holds Try.pinned (OpenSpec.ofChange fnExactStandardModelSpec)

/-- ITS FALSE NEIGHBOUR: 'it returns false'. Refute it at one input. -/
def fnExactStandardModelWrong : ChangeSpec := { name := "fnExactStandardModel", fn := fun _ => fun
  | [d] => { results := [.lit (.bool false)], args := [d] }
  | _ => none }
def FnExactStandardModelWrongFalsely : Prop := fnExactStandardModelRow.holds Try.pinned (OpenSpec.ofChange fnExactStandardModelWrong)

/-- 'laws.FnExactHollowOf': WHATEVER THE INPUT: true; the input reads as it did. -/
def fnExactHollowOfSpec : ChangeSpec := { name := "fnExactHollowOf", fn := fun _ => fun
  | [d] => { results := [.lit (.bool true)], args := [d] }
  | _ => none }
def fnExactHollowOfRow : OpenClaim := { program := "ytjbbhfmojfdcaaa", sum := "52cdaaebb289f715245accf4dce748cd7e33b28b0102132d8e52caac8a50fa19", func := "loop.example/g00952/laws.FnExactHollowOf", spec := "fnExactHollowOf", unfollowed := true, recurses := true, apart := false }
def FnExactHollowOfSaid : Prop := fnExactHollowOfRow.holds Try.pinned (OpenSpec.ofChange fnExactHollowOfSpec)

/-- ITS FALSE NEIGHBOUR: 'it returns false'. Refute it at one input. -/
def fnExactHollowOfWrong : ChangeSpec := { name := "fnExactHollowOf", fn := fun _ => fun
  | [d] => { results := [.lit (.bool false)], args := [d] }
  | _ => none }
def FnExactHollowOfWrongFalsely : Prop := fnExactHollowOfRow.holds Try.pinned (OpenSpec.ofChange fnExactHollowOfWrong)

/-- 'laws.FnExactDominantZone': WHATEVER THE INPUT: true; the input reads as it did. -/
def fnExactDominantZoneSpec : ChangeSpec := { name := "fnExactDominantZone", fn := fun _ => fun
  | [d1, d2] => { results := [.lit (.bool true)], args := [d1, d2] }
  | _ => none }
def fnExactDominantZoneRow : OpenClaim := { program := "ytjbbhfmojfdcaaa", sum := "52cdaaebb289f715245accf4dce748cd7e33b28b0102132d8e52caac8a50fa19", func := "loop.example/g00952/laws.FnExactDominantZone", spec := "fnExactDominantZone", unfollowed := true, recurses := true, apart := false }
def FnExactDominantZoneSaid : Prop := fnExactDominantZoneRow.holds Try.pinned (OpenSpec.ofChange fnExactDominantZoneSpec)

/-- ITS FALSE NEIGHBOUR: 'it returns false'. Refute it at one input. -/
def fnExactDominantZoneWrong : ChangeSpec := { name := "fnExactDominantZone", fn := fun _ => fun
  | [d1, d2] => { results := [.lit (.bool false)], args := [d1, d2] }
  | _ => none }
def FnExactDominantZoneWrongFalsely : Prop := fnExactDominantZoneRow.holds Try.pinned (OpenSpec.ofChange fnExactDominantZoneWrong)

/-- 'laws.FnExactRingAt': WHATEVER THE INPUT: true; the input reads as it did. -/
def fnExactRingAtSpec : ChangeSpec := { name := "fnExactRingAt", fn := fun _ => fun
  | [d1, d2] => { results := [.lit (.bool true)], args := [d1, d2] }
  | _ => none }
def fnExactRingAtRow : OpenClaim := { program := "ytjbbhfmojfdcaaa", sum := "52cdaaebb289f715245accf4dce748cd7e33b28b0102132d8e52caac8a50fa19", func := "loop.example/g00952/laws.FnExactRingAt", spec := "fnExactRingAt", unfollowed := true, recurses := true, apart := false }
def FnExactRingAtSaid : Prop := fnExactRingAtRow.holds Try.pinned (OpenSpec.ofChange fnExactRingAtSpec)

/-- ITS FALSE NEIGHBOUR: 'it returns false'. Refute it at one input. -/
def fnExactRingAtWrong : ChangeSpec := { name := "fnExactRingAt", fn := fun _ => fun
  | [d1, d2] => { results := [.lit (.bool false)], args := [d1, d2] }
  | _ => none }
def FnExactRingAtWrongFalsely : Prop := fnExactRingAtRow.holds Try.pinned (OpenSpec.ofChange fnExactRingAtWrong)

/-- 'laws.FnExactVolumeOf': WHATEVER THE INPUT: true; the input reads as it did. -/
def fnExactVolumeOfSpec : ChangeSpec := { name := "fnExactVolumeOf", fn := fun _ => fun
  | [d] => { results := [.lit (.bool true)], args := [d] }
  | _ => none }
def fnExactVolumeOfRow : OpenClaim := { program := "ytjbbhfmojfdcaaa", sum := "52cdaaebb289f715245accf4dce748cd7e33b28b0102132d8e52caac8a50fa19", func := "loop.example/g00952/laws.FnExactVolumeOf", spec := "fnExactVolumeOf", unfollowed := true, recurses := true, apart := false }
def FnExactVolumeOfSaid : Prop := fnExactVolumeOfRow.holds Try.pinned (OpenSpec.ofChange fnExactVolumeOfSpec)

/-- ITS FALSE NEIGHBOUR: 'it returns false'. Refute it at one input. -/
def fnExactVolumeOfWrong : ChangeSpec := { name := "fnExactVolumeOf", fn := fun _ => fun
  | [d] => { results := [.lit (.bool false)], args := [d] }
  | _ => none }
def FnExactVolumeOfWrongFalsely : Prop := fnExactVolumeOfRow.holds Try.pinned (OpenSpec.ofChange fnExactVolumeOfWrong)

/- THE SECOND FORM. 'bulk': how many values and letters a reading holds, each counted each time it is reached (what is shared counts as often as it is met; a slice's spare places count too). A statement '..UptoSaid' is the law's where the arguments, and the package variables that the reading takes, are together of bulk at most 1048576: NARROWER than '..Said'. Prove '..Said' where nothing that the law and all that it calls make is longer than what came in: it says more and counts as full. Else prove '..UptoSaid'. A law counts once. -/
mutual
def uptoBulk {H : Type} : DataW H → Nat
  | .lit (.string bytes) => bytes.length + 1
  | .lit _ => 1
  | .nil => 1
  | .ptr d => uptoBulk d + 1
  | .slice elems spare => uptoBulkAll elems + uptoBulkAll spare + 1
  | .agg parts => uptoBulkAll parts + 1
  | .iface _ d => uptoBulk d + 1
  | .map entries => uptoBulkEntries entries + 1
  | .held _ => 1
def uptoBulkAll {H : Type} : List (DataW H) → Nat
  | [] => 0
  | d :: r => uptoBulk d + uptoBulkAll r
def uptoBulkEntries {H : Type} : List (Lit × DataW H) → Nat
  | [] => 0
  | x :: r => uptoBulkEntry x + uptoBulkEntries r
def uptoBulkEntry {H : Type} : Lit × DataW H → Nat
  | (.string bytes, d) => bytes.length + uptoBulk d + 1
  | (_, d) => uptoBulk d + 1
 end
def uptoSmall : (H : Type) → List (DataW H) → Bool := fun _ ds => decide (uptoBulkAll ds ≤ 1048576)
def OpenSpec.upto (s : _root_.Go.ChangeSpec) : _root_.Go.OpenSpec := { _root_.Go.OpenSpec.ofChange s with cond := some uptoSmall }

/-- 'laws.FnExactSameModel', WHERE WHAT IT READS IS OF BULK AT MOST 1048576: true; the input reads as it did. -/
def fnExactSameModelUptoRow : OpenClaim := { program := "ytjbbhfmojfdcaaa", sum := "52cdaaebb289f715245accf4dce748cd7e33b28b0102132d8e52caac8a50fa19", func := "loop.example/g00952/laws.FnExactSameModel", spec := "fnExactSameModel", unfollowed := true, recurses := true, apart := false, narrowed := true }
def FnExactSameModelUptoSaid : Prop := fnExactSameModelUptoRow.holds Try.pinned (OpenSpec.upto fnExactSameModelSpec)

/-- 'laws.FnExactSortCuts', WHERE WHAT IT READS IS OF BULK AT MOST 1048576: true; the input reads as it did. -/
def fnExactSortCutsUptoRow : OpenClaim := { program := "ytjbbhfmojfdcaaa", sum := "52cdaaebb289f715245accf4dce748cd7e33b28b0102132d8e52caac8a50fa19", func := "loop.example/g00952/laws.FnExactSortCuts", spec := "fnExactSortCuts", unfollowed := true, recurses := true, apart := false, narrowed := true }
def FnExactSortCutsUptoSaid : Prop := fnExactSortCutsUptoRow.holds Try.pinned (OpenSpec.upto fnExactSortCutsSpec)

/-- 'laws.FnExactValidModel', WHERE WHAT IT READS IS OF BULK AT MOST 1048576: true; the input reads as it did. -/
def fnExactValidModelUptoRow : OpenClaim := { program := "ytjbbhfmojfdcaaa", sum := "52cdaaebb289f715245accf4dce748cd7e33b28b0102132d8e52caac8a50fa19", func := "loop.example/g00952/laws.FnExactValidModel", spec := "fnExactValidModel", unfollowed := true, recurses := true, apart := false, narrowed := true }
def FnExactValidModelUptoSaid : Prop := fnExactValidModelUptoRow.holds Try.pinned (OpenSpec.upto fnExactValidModelSpec)

/-- 'laws.FnExactWidestRing', WHERE WHAT IT READS IS OF BULK AT MOST 1048576: true; the input reads as it did. -/
def fnExactWidestRingUptoRow : OpenClaim := { program := "ytjbbhfmojfdcaaa", sum := "52cdaaebb289f715245accf4dce748cd7e33b28b0102132d8e52caac8a50fa19", func := "loop.example/g00952/laws.FnExactWidestRing", spec := "fnExactWidestRing", unfollowed := true, recurses := true, apart := false, narrowed := true }
def FnExactWidestRingUptoSaid : Prop := fnExactWidestRingUptoRow.holds Try.pinned (OpenSpec.upto fnExactWidestRingSpec)

/-- 'laws.FnExactThinnestRing', WHERE WHAT IT READS IS OF BULK AT MOST 1048576: true; the input reads as it did. -/
def fnExactThinnestRingUptoRow : OpenClaim := { program := "ytjbbhfmojfdcaaa", sum := "52cdaaebb289f715245accf4dce748cd7e33b28b0102132d8e52caac8a50fa19", func := "loop.example/g00952/laws.FnExactThinnestRing", spec := "fnExactThinnestRing", unfollowed := true, recurses := true, apart := false, narrowed := true }
def FnExactThinnestRingUptoSaid : Prop := fnExactThinnestRingUptoRow.holds Try.pinned (OpenSpec.upto fnExactThinnestRingSpec)

/-- 'laws.FnExactGreatestStep', WHERE WHAT IT READS IS OF BULK AT MOST 1048576: true; the input reads as it did. -/
def fnExactGreatestStepUptoRow : OpenClaim := { program := "ytjbbhfmojfdcaaa", sum := "52cdaaebb289f715245accf4dce748cd7e33b28b0102132d8e52caac8a50fa19", func := "loop.example/g00952/laws.FnExactGreatestStep", spec := "fnExactGreatestStep", unfollowed := true, recurses := true, apart := false, narrowed := true }
def FnExactGreatestStepUptoSaid : Prop := fnExactGreatestStepUptoRow.holds Try.pinned (OpenSpec.upto fnExactGreatestStepSpec)

/-- 'laws.FnExactValidZones', WHERE WHAT IT READS IS OF BULK AT MOST 1048576: true; the input reads as it did. -/
def fnExactValidZonesUptoRow : OpenClaim := { program := "ytjbbhfmojfdcaaa", sum := "52cdaaebb289f715245accf4dce748cd7e33b28b0102132d8e52caac8a50fa19", func := "loop.example/g00952/laws.FnExactValidZones", spec := "fnExactValidZones", unfollowed := true, recurses := true, apart := false, narrowed := true }
def FnExactValidZonesUptoSaid : Prop := fnExactValidZonesUptoRow.holds Try.pinned (OpenSpec.upto fnExactValidZonesSpec)

/-- 'laws.FnExactStandardModel', WHERE WHAT IT READS IS OF BULK AT MOST 1048576: true; the input reads as it did. -/
def fnExactStandardModelUptoRow : OpenClaim := { program := "ytjbbhfmojfdcaaa", sum := "52cdaaebb289f715245accf4dce748cd7e33b28b0102132d8e52caac8a50fa19", func := "loop.example/g00952/laws.FnExactStandardModel", spec := "fnExactStandardModel", apart := false, narrowed := true }
def FnExactStandardModelUptoSaid : Prop := fnExactStandardModelUptoRow.holds Try.pinned (OpenSpec.upto fnExactStandardModelSpec)

/-- 'laws.FnExactHollowOf', WHERE WHAT IT READS IS OF BULK AT MOST 1048576: true; the input reads as it did. -/
def fnExactHollowOfUptoRow : OpenClaim := { program := "ytjbbhfmojfdcaaa", sum := "52cdaaebb289f715245accf4dce748cd7e33b28b0102132d8e52caac8a50fa19", func := "loop.example/g00952/laws.FnExactHollowOf", spec := "fnExactHollowOf", unfollowed := true, recurses := true, apart := false, narrowed := true }
def FnExactHollowOfUptoSaid : Prop := fnExactHollowOfUptoRow.holds Try.pinned (OpenSpec.upto fnExactHollowOfSpec)

/-- 'laws.FnExactDominantZone', WHERE WHAT IT READS IS OF BULK AT MOST 1048576: true; the input reads as it did. -/
def fnExactDominantZoneUptoRow : OpenClaim := { program := "ytjbbhfmojfdcaaa", sum := "52cdaaebb289f715245accf4dce748cd7e33b28b0102132d8e52caac8a50fa19", func := "loop.example/g00952/laws.FnExactDominantZone", spec := "fnExactDominantZone", unfollowed := true, recurses := true, apart := false, narrowed := true }
def FnExactDominantZoneUptoSaid : Prop := fnExactDominantZoneUptoRow.holds Try.pinned (OpenSpec.upto fnExactDominantZoneSpec)

/-- 'laws.FnExactRingAt', WHERE WHAT IT READS IS OF BULK AT MOST 1048576: true; the input reads as it did. -/
def fnExactRingAtUptoRow : OpenClaim := { program := "ytjbbhfmojfdcaaa", sum := "52cdaaebb289f715245accf4dce748cd7e33b28b0102132d8e52caac8a50fa19", func := "loop.example/g00952/laws.FnExactRingAt", spec := "fnExactRingAt", unfollowed := true, recurses := true, apart := false, narrowed := true }
def FnExactRingAtUptoSaid : Prop := fnExactRingAtUptoRow.holds Try.pinned (OpenSpec.upto fnExactRingAtSpec)

/-- 'laws.FnExactVolumeOf', WHERE WHAT IT READS IS OF BULK AT MOST 1048576: true; the input reads as it did. -/
def fnExactVolumeOfUptoRow : OpenClaim := { program := "ytjbbhfmojfdcaaa", sum := "52cdaaebb289f715245accf4dce748cd7e33b28b0102132d8e52caac8a50fa19", func := "loop.example/g00952/laws.FnExactVolumeOf", spec := "fnExactVolumeOf", unfollowed := true, recurses := true, apart := false, narrowed := true }
def FnExactVolumeOfUptoSaid : Prop := fnExactVolumeOfUptoRow.holds Try.pinned (OpenSpec.upto fnExactVolumeOfSpec)

end Rows
end Go.Proofs.Ytjbbhfmojfdcaaa
